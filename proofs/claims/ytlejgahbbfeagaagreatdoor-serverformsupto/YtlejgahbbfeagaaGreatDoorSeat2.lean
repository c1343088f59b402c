/- The nice functions: what the program's functions come to. -/
import Derived.Test.YtlejgahbbfeagaaGreatDoorBase5
set_option linter.unusedVariables false
set_option maxRecDepth 10000
namespace Go.Proofs.YtlejgahbbfeagaaGreatDoor.N
open Go.Proofs.YtlejgahbbfeagaaGreatDoor.D (Tree TT altT)
noncomputable section
variable (n_ : Nat)
def mark_New_t (n : Int) : Tree (List TMark) :=
 .ite (decide (n < 1)) (.ret ([]))
 (.ite (mkOk n n) (.ret (List.replicate n.toNat (TMark.mk 0 0 0 0))) .fail)
def mark_New := fun n => (mark_New_t n).get
def state_New_t : Tree TState :=
 .opt (mark_New 3) fun r_1 =>
 .ret (TState.mk [(TFile.mk [] 0 []), (TFile.mk [] 0 []), (TFile.mk [] 0 []), (TFile.mk [] 0 []), (TFile.mk [] 0 []), (TFile.mk [] 0 [])] r_1 0)
def state_New := (state_New_t).get
def state_number_t (v : Int) : TT Bool :=
 .ite (decide (v ≥ 0)) (.ret (decide (v ≤ 1073741824)))
 (.ret false)
def state_number := fun v => (state_number_t v).val
def dir_May_s0t (name : List UInt8) (t7 : Int) (r0 : List UInt8) (v_ : Int) : Tree (Int ⊕ (Unit ⊕ Unit)) :=
 .ite (decide (v_ < t7)) (.ite (inR v_ r0.length) (.opt (r0[v_.toNat]?) fun y_1 =>
   .ite (decide ((i8 y_1) < 33)) (.ret (.inr (.inl ())))
   (.ite (decide ((i8 y_1) > 126)) (.ret (.inr (.inl ())))
   (.ret (.inl (wi64 (v_ + 1)))))) .fail)
 (.ret (.inr (.inr ())))
def dir_May_s0 := fun name t7 r0 v_ => (dir_May_s0t name t7 r0 v_).get
def dir_May_l0 := fun name t7 r0 t8 => iter (dir_May_s0 name t7 r0) n_ t8
def dir_May_t (name : List UInt8) : Tree Bool :=
 .opt (dir_May_l0 n_ name (name.length : Int) name 0) fun r_1 =>
 altT r_1 (fun a_2 =>
  .ret false) fun b_3 =>
 .ite (decide ((name.length : Int) ≥ 1)) (.ret (decide ((name.length : Int) ≤ 8)))
 (.ret false)
def dir_May := fun name => (dir_May_t n_ name).get
def state_mayFile_t (f : TFile) : Tree Bool :=
 .ite (f.Name == []) (.ret (TFile.eqb f (TFile.mk [] 0 [])))
 (.opt (dir_May n_ f.Name) fun r_1 =>
 .ite r_1 (.ite (decide (f.Ver ≥ 1)) (.ite (state_number f.Ver) (.ret (decide ((f.Body.length : Int) ≤ 24)))
   (.ret false))
  (.ret false))
 (.ret false))
def state_mayFile := fun f => (state_mayFile_t n_ f).get
def state_May_c1_t (g : TFile) (o0 : TFile) : TT Bool :=
 .ite (!(o0.Name == [])) (.ret (g.Name == o0.Name))
 (.ret false)
def state_May_c1 := fun g o0 => (state_May_c1_t g o0).val
def slices_IndexFunc_File_s0t (s : List TFile) (t7 : Int) (o0 : TFile) (v_ : Int) : Tree (Int ⊕ (Int ⊕ Unit)) :=
 .ite (decide (v_ < t7)) (.ite (inR v_ s.length) (.opt (s[v_.toNat]?) fun y_1 =>
   .ite (state_May_c1 y_1 o0) (.ret (.inr (.inl v_)))
   (.ret (.inl (wi64 (v_ + 1))))) .fail)
 (.ret (.inr (.inr ())))
def slices_IndexFunc_File_s0 := fun s t7 o0 v_ => (slices_IndexFunc_File_s0t s t7 o0 v_).get
def slices_IndexFunc_File_l0 := fun s t7 o0 t8 => iter (slices_IndexFunc_File_s0 s t7 o0) n_ t8
def slices_IndexFunc_File_t (s : List TFile) (o0 : TFile) : Tree Int :=
 .opt (slices_IndexFunc_File_l0 n_ s (s.length : Int) o0 0) fun r_1 =>
 altT r_1 (fun a_2 =>
  .ret a_2) fun b_3 =>
 .ret (-1)
def slices_IndexFunc_File := fun s o0 => (slices_IndexFunc_File_t n_ s o0).get
def slices_ContainsFunc_File_t (s : List TFile) (o0 : TFile) : Tree Bool :=
 .opt (slices_IndexFunc_File n_ s o0) fun r_1 =>
 .ret (decide (r_1 ≥ 0))
def slices_ContainsFunc_File := fun s o0 => (slices_ContainsFunc_File_t n_ s o0).get
def state_mayMark_t (m : TMark) : TT Bool :=
 .ite (state_number m.Seq) (.ite (decide (m.File ≥ 0)) (.ite (decide (m.File ≤ 6)) (.ite (state_number m.Ver) (.ite (decide (m.Err ≥ 0)) (.ret (decide (m.Err ≤ 3)))
     (.ret false))
    (.ret false))
   (.ret false))
  (.ret false))
 (.ret false)
def state_mayMark := fun m => (state_mayMark_t m).val
def state_May_c2 (m : TMark) : Bool := (!(state_mayMark m))
def slices_IndexFunc_Mark_s0t (s : List TMark) (t7 : Int) (v_ : Int) : Tree (Int ⊕ (Int ⊕ Unit)) :=
 .ite (decide (v_ < t7)) (.ite (inR v_ s.length) (.opt (s[v_.toNat]?) fun y_1 =>
   .ite (state_May_c2 y_1) (.ret (.inr (.inl v_)))
   (.ret (.inl (wi64 (v_ + 1))))) .fail)
 (.ret (.inr (.inr ())))
def slices_IndexFunc_Mark_s0 := fun s t7 v_ => (slices_IndexFunc_Mark_s0t s t7 v_).get
def slices_IndexFunc_Mark_l0 := fun s t7 t8 => iter (slices_IndexFunc_Mark_s0 s t7) n_ t8
def slices_IndexFunc_Mark_t (s : List TMark) : Tree Int :=
 .opt (slices_IndexFunc_Mark_l0 n_ s (s.length : Int) 0) fun r_1 =>
 altT r_1 (fun a_2 =>
  .ret a_2) fun b_3 =>
 .ret (-1)
def slices_IndexFunc_Mark := fun s => (slices_IndexFunc_Mark_t n_ s).get
def slices_ContainsFunc_Mark_t (s : List TMark) : Tree Bool :=
 .opt (slices_IndexFunc_Mark n_ s) fun r_1 =>
 .ret (decide (r_1 ≥ 0))
def slices_ContainsFunc_Mark := fun s => (slices_ContainsFunc_Mark_t n_ s).get
def state_May_s0t (t23 : List TFile) (t24 : Int) (s : TState) (v_ : Int) : Tree (Int ⊕ (TFile ⊕ Unit)) :=
 .ite (decide (v_ < t24)) (.ite (inR v_ t23.length) (.opt (t23[v_.toNat]?) fun y_1 =>
   .opt (state_mayFile n_ y_1) fun r_2 =>
   .ite (!r_2) (.ret (.inr (.inl y_1)))
   (.ite (cutOk 0 v_ s.Files.length) (.opt (slices_ContainsFunc_File n_ (cutL s.Files 0 v_) y_1) fun r_3 =>
    .ite r_3 (.ret (.inr (.inl y_1)))
    (.ret (.inl (wi64 (v_ + 1))))) .fail)) .fail)
 (.ret (.inr (.inr ())))
def state_May_s0 := fun t23 t24 s v_ => (state_May_s0t n_ t23 t24 s v_).get
def state_May_l0 := fun t23 t24 s t25 => iter (state_May_s0 n_ t23 t24 s) n_ t25
def state_May_t (s : TState) : Tree Bool :=
 .ite ((s.Files.length : Int) != 6) (.ret false)
 (.ite ((s.Marks.length : Int) != 3) (.ret false)
 (.ite (!(state_number s.Epoch)) (.ret false)
 (.opt (state_May_l0 n_ s.Files (s.Files.length : Int) s 0) fun r_1 =>
 altT r_1 (fun a_2 =>
  .ret false) fun b_3 =>
 .opt (slices_ContainsFunc_Mark n_ s.Marks) fun r_4 =>
 .ret (!r_4))))
def state_May := fun s => (state_May_t n_ s).get
def bits_Put_s0t (v : Int) (v_ : Int × List UInt8) : Tree ((Int × List UInt8) ⊕ (List UInt8)) :=
 .ite (decide (v_.1 ≥ 0)) (.ite (decide ((wi64 (8 * v_.1)) < 0)) .fail
  (.ite (decide ((v_.2.length + 1) ≤ lim)) (.ret (.inl ((wi64 (v_.1 - 1)), (v_.2 ++ [(b8 (wu8 (shrI .i64 v (wi64 (8 * v_.1)))))])))) .fail))
 (.ret (.inr v_.2))
def bits_Put_s0 := fun v v_ => (bits_Put_s0t v v_).get
def bits_Put_l0 := fun v n b => iter (bits_Put_s0 v) n_ (n, b)
def bits_Put_t (b : List UInt8) (v : Int) (n : Int) : Tree (List UInt8) :=
 .ite (decide (n < 1)) (.ret b)
 (.ite (decide (n > 8)) (.ret b)
 (.opt (bits_Put_l0 n_ v (wi64 (n - 1)) b) fun r_1 =>
 .ret r_1))
def bits_Put := fun b v n => (bits_Put_t n_ b v n).get
def bits_Text_t (b : List UInt8) (s : List UInt8) : Tree (List UInt8) :=
 .ite (decide ((s.length : Int) > 255)) (.ret b)
 (.ite (decide ((b.length + 1) ≤ lim)) (.ite (decide (((b ++ [(b8 (wu8 (s.length : Int)))]).length + s.length) ≤ lim)) (.ret ((b ++ [(b8 (wu8 (s.length : Int)))]) ++ s)) .fail) .fail)
def bits_Text := fun b s => (bits_Text_t b s).get
def image_padded_t (b : List UInt8) (s : List UInt8) (n : Int) : Tree (List UInt8) :=
 .opt (bits_Text b s) fun r_1 =>
 .ite (natOk (wi64 ((wi64 (n - 1)) - (s.length : Int)))) (.ite (decide ((r_1.length + (List.replicate (wi64 ((wi64 (n - 1)) - (s.length : Int))).toNat (0 : UInt8)).length) ≤ lim)) (.ret (r_1 ++ (List.replicate (wi64 ((wi64 (n - 1)) - (s.length : Int))).toNat (0 : UInt8)))) .fail) .fail
def image_padded := fun b s n => (image_padded_t b s n).get
def image_Put_s0t (t18 : List TMark) (t19 : Int) (s : TState) (v_ : Int × List UInt8) : Tree ((Int × List UInt8) ⊕ (List UInt8)) :=
 .ite (decide (v_.1 < t19)) (.ite (inR v_.1 t18.length) (.opt (t18[v_.1.toNat]?) fun y_1 =>
   .opt (bits_Put n_ v_.2 y_1.Seq 4) fun r_2 =>
   .opt (bits_Put n_ r_2 y_1.Err 1) fun r_3 =>
   .opt (bits_Put n_ r_3 y_1.File 1) fun r_4 =>
   .opt (bits_Put n_ r_4 y_1.Ver 4) fun r_5 =>
   .ret (.inl ((wi64 (v_.1 + 1)), r_5))) .fail)
 (.ret (.inr v_.2))
def image_Put_s0 := fun t18 t19 s v_ => (image_Put_s0t n_ t18 t19 s v_).get
def image_Put_l0 := fun t18 t19 s t20 b => iter (image_Put_s0 n_ t18 t19 s) n_ (t20, b)
def image_Put_s1t (t39 : List TFile) (t40 : Int) (o0 : TState) (v_ : Int × List UInt8) : Tree ((Int × List UInt8) ⊕ (List UInt8)) :=
 .ite (decide (v_.1 < t40)) (.ite (inR v_.1 t39.length) (.opt (t39[v_.1.toNat]?) fun y_1 =>
   .opt (image_padded v_.2 y_1.Name 9) fun r_2 =>
   .opt (bits_Put n_ r_2 y_1.Ver 4) fun r_3 =>
   .opt (image_padded r_3 y_1.Body 25) fun r_4 =>
   .ret (.inl ((wi64 (v_.1 + 1)), r_4))) .fail)
 (.ret (.inr v_.2))
def image_Put_s1 := fun t39 t40 o0 v_ => (image_Put_s1t n_ t39 t40 o0 v_).get
def image_Put_l1 := fun t39 t40 o0 t41 b => iter (image_Put_s1 n_ t39 t40 o0) n_ (t41, b)
def image_Put_t (s : TState) : Tree (List (List UInt8)) :=
 .opt (state_May n_ s) fun r_1 =>
 .ite (!r_1) (.ret ([]))
 (.opt (bits_Put n_ [] s.Epoch 4) fun r_2 =>
 .opt (image_Put_l0 n_ s.Marks (s.Marks.length : Int) s 0 r_2) fun r_3 =>
 .opt (image_Put_l1 n_ s.Files (s.Files.length : Int) s 0 r_3) fun r_4 =>
 .ite (decide (((r_4.length : Int).tmod 32) > 0)) (.ite (natOk (wi64 (32 - ((r_4.length : Int).tmod 32)))) (.ite (decide ((r_4.length + (List.replicate (wi64 (32 - ((r_4.length : Int).tmod 32))).toNat (0 : UInt8)).length) ≤ lim)) (.ret (chunkL (r_4 ++ (List.replicate (wi64 (32 - ((r_4.length : Int).tmod 32))).toNat (0 : UInt8))))) .fail) .fail)
 (.ret (chunkL r_4)))
def image_Put := fun s => (image_Put_t n_ s).get
def store_home_t : Tree Int :=
 .opt state_New fun r_1 =>
 .opt (image_Put n_ r_1) fun r_2 =>
 .ret (r_2.length : Int)
def store_home := (store_home_t n_).get
def store_size_t : Tree Int :=
 .opt (store_home n_) fun r_1 =>
 .ret (wi64 ((wi64 (2 * r_1)) + 1))
def store_size := (store_size_t n_).get
def bits64_Mul64 (x : Int) (y : Int) : Int × Int := ((wu64 ((wu64 ((wu64 ((shrI .u64 x 32) * (shrI .u64 y 32))) + (shrI .u64 (wu64 ((wu64 ((shrI .u64 x 32) * (band .u64 y 4294967295))) + (shrI .u64 (wu64 ((band .u64 x 4294967295) * (band .u64 y 4294967295))) 32))) 32))) + (shrI .u64 (wu64 ((band .u64 (wu64 ((wu64 ((shrI .u64 x 32) * (band .u64 y 4294967295))) + (shrI .u64 (wu64 ((band .u64 x 4294967295) * (band .u64 y 4294967295))) 32))) 4294967295) + (wu64 ((band .u64 x 4294967295) * (shrI .u64 y 32))))) 32))), (wu64 (x * y)))
def disk_New_t (n : Int) : Tree TDisk :=
 .ite (decide (n < 1)) (.ret (TDisk.mk [] [] 0 false))
 (.ite (decide (n > 64)) (.ret (TDisk.mk [] [] 0 false))
 (.ite (repOk ([0] : List UInt8) 32) (.ite (repOk1 [(repL ([0] : List UInt8) 32)] n) (.ret (TDisk.mk (repL [(repL ([0] : List UInt8) 32)] n) [] 0 false)) .fail) .fail))
def disk_New := fun n => (disk_New_t n).get
def disk_twin (d : TDisk) : Unit := ()
def disk_there_t (d : TDisk) (i : Int) : TT Bool :=
 .ite (!d.Down) (.ite (decide (i ≥ 0)) (.ret (decide (i < (d.Last.length : Int))))
  (.ret false))
 (.ret false)
def disk_there := fun d i => (disk_there_t d i).val
def disk_Write_t (d : TDisk) (i : Int) (b : List UInt8) : Tree (TDisk × Bool) :=
 .ite (!(disk_there d i)) (.ret (d, false))
 (.ite ((b.length : Int) != 32) (.ret (d, false))
 (.ite (decide ((d.Wait.length + 1) ≤ lim)) (.ite (decide (d.Arm > 0)) (.ret ((TDisk.mk d.Last (d.Wait ++ [(TPut.mk i b)]) (wi64 (d.Arm - 1)) ((wi64 (d.Arm - 1)) == 0)), (!((wi64 (d.Arm - 1)) == 0))))
  (.ret ((TDisk.mk d.Last (d.Wait ++ [(TPut.mk i b)]) d.Arm d.Down), (!d.Down)))) .fail))
def disk_Write := fun d i b => (disk_Write_t d i b).get
def disk_lasting_lasts_t (p : TPut) (n : Int) (f : Tdisk_lasting) : Tree Tdisk_lasting :=
 .ite (decide (p.At < 0)) (.ret f)
 (.ite (decide (p.At ≥ (f.d.Last.length : Int))) (.ret f)
 (.ite (inR p.At f.d.Last.length) (.opt (f.d.Last[p.At.toNat]?) fun y_1 =>
  .ite (cutOk 0 (imax (imin (imin n (p.B.length : Int)) (y_1.length : Int)) 0) p.B.length) (.ite (inR p.At f.d.Last.length) (.opt (f.d.Last[p.At.toNat]?) fun y_2 =>
    .ite (cutOk (imax (imin (imin n (p.B.length : Int)) (y_1.length : Int)) 0) (y_2.length : Int) y_2.length) (.ite (decide (((cutL p.B 0 (imax (imin (imin n (p.B.length : Int)) (y_1.length : Int)) 0)).length + (cutL y_2 (imax (imin (imin n (p.B.length : Int)) (y_1.length : Int)) 0) (y_2.length : Int)).length) ≤ lim)) (.ite (inR p.At f.d.Last.length) (.opt (f.d.Last[p.At.toNat]?) fun y_3 =>
       .ret (Tdisk_lasting.mk (TDisk.mk (f.d.Last.set p.At.toNat ((cutL p.B 0 (imax (imin (imin n (p.B.length : Int)) (y_1.length : Int)) 0)) ++ (cutL y_2 (imax (imin (imin n (p.B.length : Int)) (y_1.length : Int)) 0) (y_2.length : Int)))) f.d.Wait f.d.Arm f.d.Down))) .fail) .fail) .fail) .fail) .fail) .fail))
def disk_lasting_lasts := fun p n f => (disk_lasting_lasts_t p n f).get
def disk_Flush_s0t (t18 : List TPut) (t19 : Int) (o0 : TDisk) (v_ : Int × TDisk × Tdisk_lasting) : Tree ((Int × TDisk × Tdisk_lasting) ⊕ (TDisk × Tdisk_lasting)) :=
 .ite (decide (v_.1 < t19)) (.ite (inR v_.1 t18.length) (.opt (t18[v_.1.toNat]?) fun y_1 =>
   .opt (disk_lasting_lasts y_1 32 v_.2.2) fun r_2 =>
   .ret (.inl ((wi64 (v_.1 + 1)), (TDisk.mk [] [] v_.2.1.Arm v_.2.1.Down), r_2))) .fail)
 (.ret (.inr ((TDisk.mk [] [] v_.2.1.Arm v_.2.1.Down), v_.2.2)))
def disk_Flush_s0 := fun t18 t19 o0 v_ => (disk_Flush_s0t t18 t19 o0 v_).get
def disk_Flush_l0 := fun t18 t19 o0 t20 o1 f => iter (disk_Flush_s0 t18 t19 o0) n_ (t20, o1, f)
def disk_Flush_t (d : TDisk) : Tree (TDisk × Bool) :=
 .ite d.Down (.ret (d, false))
 (.opt (disk_Flush_l0 n_ d.Wait (d.Wait.length : Int) d 0 (TDisk.mk [] [] 0 false) (Tdisk_lasting.mk d)) fun r_1 =>
 .ret ((TDisk.mk r_1.2.d.Last [] r_1.2.d.Arm r_1.2.d.Down), true))
def disk_Flush := fun d => (disk_Flush_t n_ d).get
def store_Make_s0t (t9 : List (List UInt8)) (t10 : Int) (s : TState) (v_ : Int × TStore × TDisk) : Tree ((Int × TStore × TDisk) ⊕ (TStore × TDisk)) :=
 .ite (decide (v_.1 < t10)) (.ite (inR v_.1 t9.length) (.opt (t9[v_.1.toNat]?) fun y_1 =>
   .opt (disk_Write v_.2.2 v_.1 y_1) fun r_2 =>
   .ret (.inl ((wi64 (v_.1 + 1)), (TStore.mk (TDisk.mk [] [] v_.2.1.D.Arm v_.2.1.D.Down) (TState.mk [] [] v_.2.1.S.Epoch)), r_2.1))) .fail)
 (.ret (.inr ((TStore.mk (TDisk.mk [] [] v_.2.1.D.Arm v_.2.1.D.Down) (TState.mk [] [] v_.2.1.S.Epoch)), v_.2.2)))
def store_Make_s0 := fun t9 t10 s v_ => (store_Make_s0t t9 t10 s v_).get
def store_Make_l0 := fun t9 t10 s t11 o0 d => iter (store_Make_s0 t9 t10 s) n_ (t11, o0, d)
def store_Make_t : Tree TStore :=
 .opt state_New fun r_1 =>
 .opt (store_size n_) fun r_2 =>
 .opt (disk_New r_2) fun r_3 =>
 .opt (image_Put n_ r_1) fun r_4 =>
 .opt (store_Make_l0 n_ r_4 (r_4.length : Int) r_1 0 (TStore.mk (TDisk.mk [] [] 0 false) (TState.mk [] [] 0)) r_3) fun r_5 =>
 .opt (disk_Flush n_ r_5.2) fun r_6 =>
 .ret (TStore.mk r_6.1 r_1)
def store_Make := (store_Make_t n_).get
def server_fresh_s0t (t13 : List TMark) (t14 : Int) (st : TStore) (v_ : Int × TServer × TServer) : Tree ((Int × TServer × TServer) ⊕ (TServer × TServer)) :=
 .ite (decide (v_.1 < t14)) (.ite (inR v_.1 t13.length) (.opt (t13[v_.1.toNat]?) fun y_1 =>
   .ite (decide ((v_.2.2.Seen.length + 1) ≤ lim)) (.ret (.inl ((wi64 (v_.1 + 1)), (TServer.mk (TStore.mk (TDisk.mk [] [] v_.2.1.Store.D.Arm v_.2.1.Store.D.Down) (TState.mk [] [] v_.2.1.Store.S.Epoch)) (TDesk.mk [] []) [] [] v_.2.1.Now v_.2.1.Hush v_.2.1.Bad v_.2.1.Live v_.2.1.Recalled), (TServer.mk v_.2.2.Store (TDesk.mk [] []) (v_.2.2.Seen ++ [y_1.Seq]) [] v_.2.2.Now v_.2.2.Hush v_.2.2.Bad v_.2.2.Live v_.2.2.Recalled)))) .fail) .fail)
 (.ret (.inr ((TServer.mk (TStore.mk (TDisk.mk [] [] v_.2.1.Store.D.Arm v_.2.1.Store.D.Down) (TState.mk [] [] v_.2.1.Store.S.Epoch)) (TDesk.mk [] []) [] [] v_.2.1.Now v_.2.1.Hush v_.2.1.Bad v_.2.1.Live v_.2.1.Recalled), (TServer.mk v_.2.2.Store (TDesk.mk [] []) v_.2.2.Seen [] v_.2.2.Now v_.2.2.Hush v_.2.2.Bad v_.2.2.Live v_.2.2.Recalled))))
def server_fresh_s0 := fun t13 t14 st v_ => (server_fresh_s0t t13 t14 st v_).get
def server_fresh_l0 := fun t13 t14 st t15 o1 s => iter (server_fresh_s0 t13 t14 st) n_ (t15, o1, s)
def server_fresh_t (st : TStore) (now : Int) : Tree TServer :=
 .opt (server_fresh_l0 n_ st.S.Marks (st.S.Marks.length : Int) st 0 (TServer.mk (TStore.mk (TDisk.mk [] [] 0 false) (TState.mk [] [] 0)) (TDesk.mk [] []) [] [] 0 0 0 false 0) (TServer.mk st (TDesk.mk [] []) [] [] now 0 0 true 0)) fun r_1 =>
 .ite (mkOk (st.S.Marks.length : Int) (st.S.Marks.length : Int)) (.ret (TServer.mk r_1.2.Store (TDesk.mk [] []) r_1.2.Seen (List.replicate (st.S.Marks.length : Int).toNat (TTell.mk 0 0 0 0 0 0 0 0 [])) r_1.2.Now r_1.2.Hush r_1.2.Bad r_1.2.Live r_1.2.Recalled)) .fail
def server_fresh := fun st now => (server_fresh_t n_ st now).get
def server_Start_t (now : Int) : Tree TServer :=
 .opt (store_Make n_) fun r_1 =>
 .opt (server_fresh n_ r_1 now) fun r_2 =>
 .ret r_2
def server_Start := fun now => (server_Start_t n_ now).get
def ref13_num_t (n : Int) (least : Int) : TT Bool :=
 .ite (decide (n ≥ least)) (.ret (decide (n ≤ 1073741824)))
 (.ret false)
def ref13_num := fun n least => (ref13_num_t n least).val
def ref7_MayName_s0t (s : List UInt8) (v_ : Int) : Tree (Int ⊕ (Unit ⊕ Unit)) :=
 .ite (decide (v_ < (s.length : Int))) (.ite (inR v_ s.length) (.opt (s[v_.toNat]?) fun y_1 =>
   .ite (decide ((i8 y_1) < 33)) (.ret (.inr (.inl ())))
   (.ite (inR v_ s.length) (.opt (s[v_.toNat]?) fun y_2 =>
    .ite (decide ((i8 y_2) > 126)) (.ret (.inr (.inl ())))
    (.ret (.inl (wi64 (v_ + 1))))) .fail)) .fail)
 (.ret (.inr (.inr ())))
def ref7_MayName_s0 := fun s v_ => (ref7_MayName_s0t s v_).get
def ref7_MayName_l0 := fun s i => iter (ref7_MayName_s0 s) n_ i
def ref7_MayName_t (s : List UInt8) : Tree Bool :=
 .opt (ref7_MayName_l0 n_ s 0) fun r_1 =>
 altT r_1 (fun a_2 =>
  .ret false) fun b_3 =>
 .ite (decide ((s.length : Int) ≥ 1)) (.ret (decide ((s.length : Int) ≤ 8)))
 (.ret false)
def ref7_MayName := fun s => (ref7_MayName_t n_ s).get
def ref7_SameWrites_s0t (a : List TWrite) (b : List TWrite) (v_ : Int) : Tree (Int ⊕ (Unit ⊕ Unit)) :=
 .ite (decide (v_ < (a.length : Int))) (.ite (inR v_ a.length) (.opt (a[v_.toNat]?) fun y_1 =>
   .ite (inR v_ b.length) (.opt (b[v_.toNat]?) fun y_2 =>
    .ite (!(TWrite.eqb y_1 y_2)) (.ret (.inr (.inl ())))
    (.ret (.inl (wi64 (v_ + 1))))) .fail) .fail)
 (.ret (.inr (.inr ())))
def ref7_SameWrites_s0 := fun a b v_ => (ref7_SameWrites_s0t a b v_).get
def ref7_SameWrites_l0 := fun a b i => iter (ref7_SameWrites_s0 a b) n_ i
def ref7_SameWrites_t (a : List TWrite) (b : List TWrite) : Tree Bool :=
 .ite ((a.length : Int) != (b.length : Int)) (.ret false)
 (.opt (ref7_SameWrites_l0 n_ a b 0) fun r_1 =>
 altT r_1 (fun a_2 =>
  .ret false) fun b_3 =>
 .ret true)
def ref7_SameWrites := fun a b => (ref7_SameWrites_t n_ a b).get
def ref13_SameAsk_t (a : TAsk) (b : TAsk) : Tree Bool :=
 .ite (a.Kind == b.Kind) (.ite (a.From == b.From) (.ite (a.Epoch == b.Epoch) (.ite (a.Seq == b.Seq) (.ite (a.Name == b.Name) (.ite (a.File == b.File) (.ite (a.Mode == b.Mode) (.opt (ref7_SameWrites n_ a.Writes b.Writes) fun r_1 =>
        .ret r_1)
       (.ret false))
      (.ret false))
     (.ret false))
    (.ret false))
   (.ret false))
  (.ret false))
 (.ret false)
def ref13_SameAsk := fun a b => (ref13_SameAsk_t n_ a b).get
def ref7_MayWrite_t (w : TWrite) : TT Bool :=
 .ite (decide (w.Off ≥ 0)) (.ite (decide (w.Off < 24)) (.ite (decide ((w.B.length : Int) ≥ 1)) (.ret (decide ((w.B.length : Int) ≤ (wi64 (24 - w.Off)))))
   (.ret false))
  (.ret false))
 (.ret false)
def ref7_MayWrite := fun w => (ref7_MayWrite_t w).val
def ref13_MayAsk_s0t (a : TAsk) (x : TAsk) (v_ : Bool × Int) : Tree ((Bool × Int) ⊕ Bool) :=
 .ite (decide (v_.2 < (a.Writes.length : Int))) (.ite v_.1 (.ite (inR v_.2 a.Writes.length) (.opt (a.Writes[v_.2.toNat]?) fun y_1 =>
    .ret (.inl ((ref7_MayWrite y_1), (wi64 (v_.2 + 1))))) .fail)
  (.ret (.inl (false, (wi64 (v_.2 + 1))))))
 (.ret (.inr v_.1))
def ref13_MayAsk_s0 := fun a x v_ => (ref13_MayAsk_s0t a x v_).get
def ref13_MayAsk_l0 := fun a x ok i => iter (ref13_MayAsk_s0 a x) n_ (ok, i)
def ref13_MayAsk_t (a : TAsk) : Tree Bool :=
 .ite (decide (a.Kind < 1)) (.ret false)
 (.ite (decide (a.Kind > 5)) (.ret false)
 (.ite (decide (a.From < 1)) (.ret false)
 (.ite (decide (a.From > 3)) (.ret false)
 (.ite (!(ref13_num a.Epoch 0)) (.ret false)
 (.ite (!(ref13_num a.Seq 1)) (.ret false)
 (.ite (a.Kind == 1) (.opt (ref7_MayName n_ a.Name) fun r_1 =>
  .ite r_1 (.opt (ref13_SameAsk n_ (TAsk.mk a.Kind a.From a.Epoch a.Seq a.Name 0 0 []) a) fun r_2 =>
   .ret r_2)
  (.ret false))
 (.ite (decide (a.File ≥ 1)) (.ite (a.Kind == 2) (.ite (decide (a.File ≤ 6)) (.ite (a.Mode == 1) (.opt (ref13_SameAsk n_ (TAsk.mk a.Kind a.From a.Epoch a.Seq [] a.File a.Mode []) a) fun r_3 =>
     .ret r_3)
    (.ite (a.Mode == 2) (.opt (ref13_SameAsk n_ (TAsk.mk a.Kind a.From a.Epoch a.Seq [] a.File a.Mode []) a) fun r_4 =>
     .ret r_4)
    (.ret false)))
   (.ret false))
  (.ite (a.Kind == 3) (.ite (decide (a.File ≤ 6)) (.ite (decide ((a.Writes.length : Int) ≤ 5)) (.ite (decide ((a.Writes.length : Int) > 0)) (.opt (ref13_MayAsk_l0 n_ a (TAsk.mk a.Kind a.From a.Epoch a.Seq [] a.File 0 a.Writes) true 0) fun r_5 =>
      .ite r_5 (.opt (ref13_SameAsk n_ (TAsk.mk a.Kind a.From a.Epoch a.Seq [] a.File 0 a.Writes) a) fun r_6 =>
       .ret r_6)
      (.ret false))
     (.opt (ref13_MayAsk_l0 n_ a (TAsk.mk a.Kind a.From a.Epoch a.Seq [] a.File 0 a.Writes) (a.Kind == 4) 0) fun r_7 =>
     .ite r_7 (.opt (ref13_SameAsk n_ (TAsk.mk a.Kind a.From a.Epoch a.Seq [] a.File 0 a.Writes) a) fun r_8 =>
      .ret r_8)
     (.ret false)))
    (.opt (ref13_MayAsk_l0 n_ a (TAsk.mk a.Kind a.From a.Epoch a.Seq [] a.File 0 a.Writes) false 0) fun r_9 =>
    .ite r_9 (.opt (ref13_SameAsk n_ (TAsk.mk a.Kind a.From a.Epoch a.Seq [] a.File 0 a.Writes) a) fun r_10 =>
     .ret r_10)
    (.ret false)))
   (.opt (ref13_MayAsk_l0 n_ a (TAsk.mk a.Kind a.From a.Epoch a.Seq [] a.File 0 a.Writes) false 0) fun r_11 =>
   .ite r_11 (.opt (ref13_SameAsk n_ (TAsk.mk a.Kind a.From a.Epoch a.Seq [] a.File 0 a.Writes) a) fun r_12 =>
    .ret r_12)
   (.ret false)))
  (.ite (a.Kind == 4) (.ite (decide (a.File ≤ 6)) (.ite (decide ((a.Writes.length : Int) ≤ 5)) (.ite (decide ((a.Writes.length : Int) > 0)) (.opt (ref13_MayAsk_l0 n_ a (TAsk.mk a.Kind a.From a.Epoch a.Seq [] a.File 0 a.Writes) true 0) fun r_13 =>
      .ite r_13 (.opt (ref13_SameAsk n_ (TAsk.mk a.Kind a.From a.Epoch a.Seq [] a.File 0 a.Writes) a) fun r_14 =>
       .ret r_14)
      (.ret false))
     (.opt (ref13_MayAsk_l0 n_ a (TAsk.mk a.Kind a.From a.Epoch a.Seq [] a.File 0 a.Writes) (a.Kind == 4) 0) fun r_15 =>
     .ite r_15 (.opt (ref13_SameAsk n_ (TAsk.mk a.Kind a.From a.Epoch a.Seq [] a.File 0 a.Writes) a) fun r_16 =>
      .ret r_16)
     (.ret false)))
    (.opt (ref13_MayAsk_l0 n_ a (TAsk.mk a.Kind a.From a.Epoch a.Seq [] a.File 0 a.Writes) false 0) fun r_17 =>
    .ite r_17 (.opt (ref13_SameAsk n_ (TAsk.mk a.Kind a.From a.Epoch a.Seq [] a.File 0 a.Writes) a) fun r_18 =>
     .ret r_18)
    (.ret false)))
   (.opt (ref13_MayAsk_l0 n_ a (TAsk.mk a.Kind a.From a.Epoch a.Seq [] a.File 0 a.Writes) false 0) fun r_19 =>
   .ite r_19 (.opt (ref13_SameAsk n_ (TAsk.mk a.Kind a.From a.Epoch a.Seq [] a.File 0 a.Writes) a) fun r_20 =>
    .ret r_20)
   (.ret false)))
  (.ite (decide (a.File ≤ 6)) (.opt (ref13_SameAsk n_ (TAsk.mk a.Kind a.From a.Epoch a.Seq [] a.File 0 []) a) fun r_21 =>
   .ret r_21)
  (.ret false)))))
 (.ite (a.Kind == 2) (.ret false)
 (.ite (a.Kind == 3) (.opt (ref13_MayAsk_l0 n_ a (TAsk.mk a.Kind a.From a.Epoch a.Seq [] a.File 0 a.Writes) false 0) fun r_22 =>
  .ite r_22 (.opt (ref13_SameAsk n_ (TAsk.mk a.Kind a.From a.Epoch a.Seq [] a.File 0 a.Writes) a) fun r_23 =>
   .ret r_23)
  (.ret false))
 (.ite (a.Kind == 4) (.opt (ref13_MayAsk_l0 n_ a (TAsk.mk a.Kind a.From a.Epoch a.Seq [] a.File 0 a.Writes) false 0) fun r_24 =>
  .ite r_24 (.opt (ref13_SameAsk n_ (TAsk.mk a.Kind a.From a.Epoch a.Seq [] a.File 0 a.Writes) a) fun r_25 =>
   .ret r_25)
  (.ret false))
 (.ret false)))))))))))
def ref13_MayAsk := fun a => (ref13_MayAsk_t n_ a).get
def ref1_Put_s0t (v : Int) (v_ : Int × List UInt8) : Tree ((Int × List UInt8) ⊕ (List UInt8)) :=
 .ite (decide (v_.1 ≥ 0)) (.ite (decide ((wi64 (8 * v_.1)) < 0)) .fail
  (.ite (decide ((v_.2.length + 1) ≤ lim)) (.ret (.inl ((wi64 (v_.1 - 1)), (v_.2 ++ [(b8 (wu8 (shrI .i64 v (wi64 (8 * v_.1)))))])))) .fail))
 (.ret (.inr v_.2))
def ref1_Put_s0 := fun v v_ => (ref1_Put_s0t v v_).get
def ref1_Put_l0 := fun v i out => iter (ref1_Put_s0 v) n_ (i, out)
def ref1_Put_t (b : List UInt8) (v : Int) (n : Int) : Tree (List UInt8) :=
 .ite (decide (b.length ≤ lim)) (.ite (decide (n < 1)) (.ret b)
  (.ite (decide (n > 8)) (.ret b)
  (.opt (ref1_Put_l0 n_ v (wi64 (n - 1)) b) fun r_1 =>
  .ret r_1))) .fail
def ref1_Put := fun b v n => (ref1_Put_t n_ b v n).get
def ref1_Text_t (b : List UInt8) (s : List UInt8) : Tree (List UInt8) :=
 .ite (decide (b.length ≤ lim)) (.ite (decide ((s.length : Int) > 255)) (.ret b)
  (.ite (decide ((b.length + 1) ≤ lim)) (.ite (decide (((b ++ [(b8 (wu8 (s.length : Int)))]).length + s.length) ≤ lim)) (.ret ((b ++ [(b8 (wu8 (s.length : Int)))]) ++ s)) .fail) .fail)) .fail
def ref1_Text := fun b s => (ref1_Text_t b s).get
def ref1_Crc_s0t (b : List UInt8) (i : Int) (v_ : Int × Int) : Tree ((Int × Int) ⊕ Int) :=
 .ite (decide (v_.2 < 8)) (.ite ((v_.1.tmod 2) == 1) (.ret (.inl ((bxor .i64 (wi64 (v_.1.tdiv 2)) 40961), (wi64 (v_.2 + 1)))))
  (.ret (.inl ((wi64 (v_.1.tdiv 2)), (wi64 (v_.2 + 1))))))
 (.ret (.inr v_.1))
def ref1_Crc_s0 := fun b i v_ => (ref1_Crc_s0t b i v_).get
def ref1_Crc_l0 := fun b i c k => iter (ref1_Crc_s0 b i) n_ (c, k)
def ref1_Crc_s1t (b : List UInt8) (v_ : Int × Int) : Tree ((Int × Int) ⊕ Int) :=
 .ite (decide (v_.2 < (b.length : Int))) (.ite (inR v_.2 b.length) (.opt (b[v_.2.toNat]?) fun y_1 =>
   .opt (ref1_Crc_l0 n_ b v_.2 (bxor .i64 v_.1 (wi64 (i8 y_1))) 0) fun r_2 =>
   .ret (.inl (r_2, (wi64 (v_.2 + 1))))) .fail)
 (.ret (.inr v_.1))
def ref1_Crc_s1 := fun b v_ => (ref1_Crc_s1t n_ b v_).get
def ref1_Crc_l1 := fun b c i => iter (ref1_Crc_s1 n_ b) n_ (c, i)
def ref1_Crc_t (b : List UInt8) : Tree Int :=
 .opt (ref1_Crc_l1 n_ b 0 0) fun r_1 =>
 .ret (wu16 r_1)
def ref1_Crc := fun b => (ref1_Crc_t n_ b).get
def ref13_sealed_t (b : List UInt8) : Tree (List UInt8) :=
 .opt (ref1_Crc n_ b) fun r_1 =>
 .opt (ref1_Put n_ b (wi64 r_1) 2) fun r_2 =>
 .ret r_2
def ref13_sealed := fun b => (ref13_sealed_t n_ b).get
def ref13_PutAsk_s0t (a : TAsk) (v_ : List UInt8 × Int) : Tree ((List UInt8 × Int) ⊕ (List UInt8)) :=
 .ite (decide (v_.2 < (a.Writes.length : Int))) (.ite (inR v_.2 a.Writes.length) (.opt (a.Writes[v_.2.toNat]?) fun y_1 =>
   .opt (ref1_Put n_ v_.1 y_1.Off 1) fun r_2 =>
   .ite (inR v_.2 a.Writes.length) (.opt (a.Writes[v_.2.toNat]?) fun y_3 =>
    .opt (ref1_Text r_2 y_3.B) fun r_4 =>
    .ret (.inl (r_4, (wi64 (v_.2 + 1))))) .fail) .fail)
 (.ret (.inr v_.1))
def ref13_PutAsk_s0 := fun a v_ => (ref13_PutAsk_s0t n_ a v_).get
def ref13_PutAsk_l0 := fun a b i => iter (ref13_PutAsk_s0 n_ a) n_ (b, i)
def ref13_PutAsk_t (a : TAsk) : Tree (List UInt8) :=
 .opt (ref13_MayAsk n_ a) fun r_1 =>
 .ite (!r_1) (.ret ([]))
 (.opt (ref1_Put n_ [] a.Kind 1) fun r_2 =>
 .opt (ref1_Put n_ r_2 a.From 1) fun r_3 =>
 .opt (ref1_Put n_ r_3 a.Epoch 4) fun r_4 =>
 .opt (ref1_Put n_ r_4 a.Seq 4) fun r_5 =>
 .opt (ref1_Text r_5 a.Name) fun r_6 =>
 .opt (ref1_Put n_ r_6 a.File 1) fun r_7 =>
 .opt (ref1_Put n_ r_7 a.Mode 1) fun r_8 =>
 .opt (ref1_Put n_ r_8 (a.Writes.length : Int) 1) fun r_9 =>
 .opt (ref13_PutAsk_l0 n_ a r_9 0) fun r_10 =>
 .opt (ref13_sealed n_ r_10) fun r_11 =>
 .ret r_11)
def ref13_PutAsk := fun a => (ref13_PutAsk_t n_ a).get
def server_of (s : TServer) : Tserver_host := (Tserver_host.mk s [])
def bits_front_t (b : List UInt8) (n : Int) : Tree ((List UInt8) ⊕ Unit) :=
 .ite (decide ((b.length : Int) < n)) (.ret (.inr ()))
 (.ite (cutOk 0 n b.length) (.ret (.inl (cutL b 0 n))) .fail)
def bits_front := fun b n => (bits_front_t b n).get
def bits_Take_s0t (t16 : List UInt8) (t17 : Int) (ok : Bool) (v_ : Int × Int) : Tree ((Int × Int) ⊕ Int) :=
 .ite (decide (v_.2 < t17)) (.ite (inR v_.2 t16.length) (.opt (t16[v_.2.toNat]?) fun y_1 =>
   .ret (.inl ((bor .i64 (shlI .i64 v_.1 8) (wi64 (i8 y_1))), (wi64 (v_.2 + 1))))) .fail)
 (.ret (.inr v_.1))
def bits_Take_s0 := fun t16 t17 ok v_ => (bits_Take_s0t t16 t17 ok v_).get
def bits_Take_l0 := fun t16 t17 ok v t18 => iter (bits_Take_s0 t16 t17 ok) n_ (v, t18)
def bits_Take_t (b : List UInt8) (n : Int) : Tree (Int × Bool) :=
 .ite (decide (n < 1)) (.ret (0, false))
 (.ite (decide (n > 7)) (.ret (0, false))
 (.opt (bits_front b n) fun r_1 =>
 altT r_1 (fun a_2 =>
  .opt (bits_Take_l0 n_ a_2 (a_2.length : Int) false 0 0) fun r_3 =>
  .ret (r_3, true)) fun b_4 =>
 .ret (0, false)))
def bits_Take := fun b n => (bits_Take_t n_ b n).get
def msg_reader_num_t (n : Int) (r : Tmsg_reader) : Tree ((Int × Tmsg_reader) ⊕ Unit) :=
 .opt (bits_Take n_ r.b n) fun r_1 =>
 .ite (!r_1.2) (.ret (.inr ()))
 (.ite (cutOk n (r.b.length : Int) r.b.length) (.ret (.inl (r_1.1, (Tmsg_reader.mk (cutL r.b n (r.b.length : Int)))))) .fail)
def msg_reader_num := fun n r => (msg_reader_num_t n_ n r).get
def bits_TakeText_t (b : List UInt8) : Tree (List UInt8 × Int × Bool) :=
 .opt (bits_front b 1) fun r_1 =>
 altT r_1 (fun a_2 =>
  .ite (inR 0 a_2.length) (.opt (a_2[0]?) fun y_3 =>
   .ite (decide ((b.length : Int) < (wi64 ((wi64 (i8 y_3)) + 1)))) (.ret ([], 0, false))
   (.ite (cutOk 1 (wi64 ((wi64 (i8 y_3)) + 1)) b.length) (.ret ((cutL b 1 (wi64 ((wi64 (i8 y_3)) + 1))), (wi64 ((wi64 (i8 y_3)) + 1)), true)) .fail)) .fail) fun b_4 =>
 .ret ([], 0, false)
def bits_TakeText := fun b => (bits_TakeText_t b).get
def msg_reader_text_t (r : Tmsg_reader) : Tree ((List UInt8 × Tmsg_reader) ⊕ Unit) :=
 .opt (bits_TakeText r.b) fun r_1 =>
 .ite (!r_1.2.2) (.ret (.inr ()))
 (.ite (cutOk r_1.2.1 (r.b.length : Int) r.b.length) (.ret (.inl (r_1.1, (Tmsg_reader.mk (cutL r.b r_1.2.1 (r.b.length : Int)))))) .fail)
def msg_reader_text := fun r => (msg_reader_text_t r).get
def msg_reader_ask_s0t (v_ : Int × Tmsg_reader × TAsk) : Tree ((Int × Tmsg_reader × TAsk) ⊕ ((Tmsg_reader × TAsk) ⊕ ((Tmsg_reader × TAsk × TWrite) ⊕ (Tmsg_reader × TAsk)))) :=
 .ite (decide (v_.1 > 0)) (.opt (msg_reader_num n_ 1 v_.2.1) fun r_1 =>
  altT r_1 (fun a_2 =>
   .opt (msg_reader_text a_2.2) fun r_3 =>
   altT r_3 (fun a_4 =>
    .ite (decide ((v_.2.2.Writes.length + 1) ≤ lim)) (.ret (.inl ((wi64 (v_.1 - 1)), a_4.2, (TAsk.mk v_.2.2.Kind v_.2.2.From v_.2.2.Epoch v_.2.2.Seq v_.2.2.Name v_.2.2.File v_.2.2.Mode (v_.2.2.Writes ++ [(TWrite.mk a_2.1 a_4.1)]))))) .fail) fun b_5 =>
   .ret (.inr (.inr (.inl (a_2.2, v_.2.2, (TWrite.mk a_2.1 [])))))) fun b_6 =>
  .ret (.inr (.inl (v_.2.1, v_.2.2))))
 (.ret (.inr (.inr (.inr (v_.2.1, v_.2.2)))))
def msg_reader_ask_s0 := fun v_ => (msg_reader_ask_s0t n_ v_).get
def msg_reader_ask_l0 := fun n r a => iter (msg_reader_ask_s0 n_) n_ (n, r, a)
def msg_reader_ask_t (r : Tmsg_reader) : Tree ((TAsk × Tmsg_reader) ⊕ Tmsg_reader) :=
 .opt (msg_reader_num n_ 1 r) fun r_1 =>
 altT r_1 (fun a_2 =>
  .opt (msg_reader_num n_ 1 a_2.2) fun r_3 =>
  altT r_3 (fun a_4 =>
   .opt (msg_reader_num n_ 4 a_4.2) fun r_5 =>
   altT r_5 (fun a_6 =>
    .opt (msg_reader_num n_ 4 a_6.2) fun r_7 =>
    altT r_7 (fun a_8 =>
     .opt (msg_reader_text a_8.2) fun r_9 =>
     altT r_9 (fun a_10 =>
      .opt (msg_reader_num n_ 1 a_10.2) fun r_11 =>
      altT r_11 (fun a_12 =>
       .opt (msg_reader_num n_ 1 a_12.2) fun r_13 =>
       altT r_13 (fun a_14 =>
        .opt (msg_reader_num n_ 1 a_14.2) fun r_15 =>
        altT r_15 (fun a_16 =>
         .opt (msg_reader_ask_l0 n_ a_16.1 a_16.2 (TAsk.mk a_2.1 a_4.1 a_6.1 a_8.1 a_10.1 a_12.1 a_14.1 [])) fun r_17 =>
         altT r_17 (fun a_18 =>
          .ret (.inr a_18.1)) fun b_19 =>
         altT b_19 (fun a_20 =>
          .ret (.inr a_20.1)) fun b_21 =>
         .ret (.inl (b_21.2, b_21.1))) fun b_22 =>
        .ret (.inr a_14.2)) fun b_23 =>
       .ret (.inr a_12.2)) fun b_24 =>
      .ret (.inr a_10.2)) fun b_25 =>
     .ret (.inr a_8.2)) fun b_26 =>
    .ret (.inr a_6.2)) fun b_27 =>
   .ret (.inr a_4.2)) fun b_28 =>
  .ret (.inr a_2.2)) fun b_29 =>
 .ret (.inr r)
def msg_reader_ask := fun r => (msg_reader_ask_t n_ r).get
def msg_from_t (lo : Int) (hi : Int) (v : Int) : TT Bool :=
 .ite (decide (lo ≤ v)) (.ret (decide (v ≤ hi)))
 (.ret false)
def msg_from := fun lo hi v => (msg_from_t lo hi v).val
def file_May_t (w : TWrite) : TT Bool :=
 .ite (decide (w.Off ≥ 0)) (.ite (decide ((w.B.length : Int) ≥ 1)) (.ite (decide ((w.B.length : Int) ≤ 24)) (.ret (decide (w.Off ≤ (wi64 (24 - (w.B.length : Int))))))
   (.ret false))
  (.ret false))
 (.ret false)
def file_May := fun w => (file_May_t w).val
def msg_wants_c1 (w : TWrite) : Bool := (!(file_May w))
def slices_IndexFunc_Write_s0t (s : List TWrite) (t7 : Int) (v_ : Int) : Tree (Int ⊕ (Int ⊕ Unit)) :=
 .ite (decide (v_ < t7)) (.ite (inR v_ s.length) (.opt (s[v_.toNat]?) fun y_1 =>
   .ite (msg_wants_c1 y_1) (.ret (.inr (.inl v_)))
   (.ret (.inl (wi64 (v_ + 1))))) .fail)
 (.ret (.inr (.inr ())))
def slices_IndexFunc_Write_s0 := fun s t7 v_ => (slices_IndexFunc_Write_s0t s t7 v_).get
def slices_IndexFunc_Write_l0 := fun s t7 t8 => iter (slices_IndexFunc_Write_s0 s t7) n_ t8
def slices_IndexFunc_Write_t (s : List TWrite) : Tree Int :=
 .opt (slices_IndexFunc_Write_l0 n_ s (s.length : Int) 0) fun r_1 =>
 altT r_1 (fun a_2 =>
  .ret a_2) fun b_3 =>
 .ret (-1)
def slices_IndexFunc_Write := fun s => (slices_IndexFunc_Write_t n_ s).get
def slices_ContainsFunc_Write_t (s : List TWrite) : Tree Bool :=
 .opt (slices_IndexFunc_Write n_ s) fun r_1 =>
 .ret (decide (r_1 ≥ 0))
def slices_ContainsFunc_Write := fun s => (slices_ContainsFunc_Write_t n_ s).get
def msg_wants_t (a : TAsk) : Tree (TAsk × Bool) :=
 .ite (a.Kind == 1) (.opt (dir_May n_ a.Name) fun r_1 =>
  .ret ((TAsk.mk a.Kind a.From a.Epoch a.Seq a.Name 0 0 []), r_1))
 (.ite (a.Kind == 2) (.ite (msg_from 1 6 a.File) (.ret ((TAsk.mk a.Kind a.From a.Epoch a.Seq [] a.File a.Mode []), (msg_from 1 2 a.Mode)))
  (.ret ((TAsk.mk a.Kind a.From a.Epoch a.Seq [] a.File a.Mode []), false)))
 (.ite (a.Kind == 3) (.ite (decide ((a.Writes.length : Int) ≤ 5)) (.ite (decide ((a.Writes.length : Int) > 0)) (.ite (msg_from 1 6 a.File) (.opt (slices_ContainsFunc_Write n_ a.Writes) fun r_2 =>
     .ret ((TAsk.mk a.Kind a.From a.Epoch a.Seq [] a.File 0 a.Writes), (!r_2)))
    (.ret ((TAsk.mk a.Kind a.From a.Epoch a.Seq [] a.File 0 a.Writes), false)))
   (.ite (msg_from 1 6 a.File) (.ite (a.Kind == 4) (.opt (slices_ContainsFunc_Write n_ a.Writes) fun r_3 =>
     .ret ((TAsk.mk a.Kind a.From a.Epoch a.Seq [] a.File 0 a.Writes), (!r_3)))
    (.ret ((TAsk.mk a.Kind a.From a.Epoch a.Seq [] a.File 0 a.Writes), false)))
   (.ret ((TAsk.mk a.Kind a.From a.Epoch a.Seq [] a.File 0 a.Writes), false))))
  (.ite (msg_from 1 6 a.File) (.ret ((TAsk.mk a.Kind a.From a.Epoch a.Seq [] a.File 0 a.Writes), false))
  (.ret ((TAsk.mk a.Kind a.From a.Epoch a.Seq [] a.File 0 a.Writes), false))))
 (.ite (a.Kind == 4) (.ite (decide ((a.Writes.length : Int) ≤ 5)) (.ite (decide ((a.Writes.length : Int) > 0)) (.ite (msg_from 1 6 a.File) (.opt (slices_ContainsFunc_Write n_ a.Writes) fun r_4 =>
     .ret ((TAsk.mk a.Kind a.From a.Epoch a.Seq [] a.File 0 a.Writes), (!r_4)))
    (.ret ((TAsk.mk a.Kind a.From a.Epoch a.Seq [] a.File 0 a.Writes), false)))
   (.ite (msg_from 1 6 a.File) (.ite (a.Kind == 4) (.opt (slices_ContainsFunc_Write n_ a.Writes) fun r_5 =>
     .ret ((TAsk.mk a.Kind a.From a.Epoch a.Seq [] a.File 0 a.Writes), (!r_5)))
    (.ret ((TAsk.mk a.Kind a.From a.Epoch a.Seq [] a.File 0 a.Writes), false)))
   (.ret ((TAsk.mk a.Kind a.From a.Epoch a.Seq [] a.File 0 a.Writes), false))))
  (.ite (msg_from 1 6 a.File) (.ret ((TAsk.mk a.Kind a.From a.Epoch a.Seq [] a.File 0 a.Writes), false))
  (.ret ((TAsk.mk a.Kind a.From a.Epoch a.Seq [] a.File 0 a.Writes), false))))
 (.ret ((TAsk.mk a.Kind a.From a.Epoch a.Seq [] a.File 0 []), (msg_from 1 6 a.File))))))
def msg_wants := fun a => (msg_wants_t n_ a).get
def slices_Equal_Write_s0t (s1 : List TWrite) (s2 : List TWrite) (t12 : Int) (v_ : Int) : Tree (Int ⊕ (Unit ⊕ Unit)) :=
 .ite (decide (v_ < t12)) (.ite (inR v_ s1.length) (.opt (s1[v_.toNat]?) fun y_1 =>
   .ite (inR v_ s2.length) (.opt (s2[v_.toNat]?) fun y_2 =>
    .ite (!(TWrite.eqb y_1 y_2)) (.ret (.inr (.inl ())))
    (.ret (.inl (wi64 (v_ + 1))))) .fail) .fail)
 (.ret (.inr (.inr ())))
def slices_Equal_Write_s0 := fun s1 s2 t12 v_ => (slices_Equal_Write_s0t s1 s2 t12 v_).get
def slices_Equal_Write_l0 := fun s1 s2 t12 t13 => iter (slices_Equal_Write_s0 s1 s2 t12) n_ t13
def slices_Equal_Write_t (s1 : List TWrite) (s2 : List TWrite) : Tree Bool :=
 .ite ((s1.length : Int) != (s2.length : Int)) (.ret false)
 (.opt (slices_Equal_Write_l0 n_ s1 s2 (s1.length : Int) 0) fun r_1 =>
 altT r_1 (fun a_2 =>
  .ret false) fun b_3 =>
 .ret true)
def slices_Equal_Write := fun s1 s2 => (slices_Equal_Write_t n_ s1 s2).get
def msg_SameAsk_t (a : TAsk) (b : TAsk) : Tree Bool :=
 .ite (a.Kind == b.Kind) (.ite (a.From == b.From) (.ite (a.Epoch == b.Epoch) (.ite (a.Seq == b.Seq) (.ite (a.Name == b.Name) (.ite (a.File == b.File) (.ite (a.Mode == b.Mode) (.opt (slices_Equal_Write n_ a.Writes b.Writes) fun r_1 =>
        .ret r_1)
       (.ret false))
      (.ret false))
     (.ret false))
    (.ret false))
   (.ret false))
  (.ret false))
 (.ret false)
def msg_SameAsk := fun a b => (msg_SameAsk_t n_ a b).get
def msg_MayAsk_t (a : TAsk) : Tree Bool :=
 .ite (!(msg_from 1 5 a.Kind)) (.ret false)
 (.ite (!(msg_from 1 3 a.From)) (.ret false)
 (.ite (!(msg_from 0 1073741824 a.Epoch)) (.ret false)
 (.ite (!(msg_from 1 1073741824 a.Seq)) (.ret false)
 (.opt (msg_wants n_ a) fun r_1 =>
 .ite r_1.2 (.opt (msg_SameAsk n_ a r_1.1) fun r_2 =>
  .ret r_2)
 (.ret false)))))
def msg_MayAsk := fun a => (msg_MayAsk_t n_ a).get
def bits_Put_2_s0t (v : Int) (v_ : Int × List UInt8) : Tree ((Int × List UInt8) ⊕ (List UInt8)) :=
 .ite (decide (v_.1 ≥ 0)) (.ite (decide ((wi64 (8 * v_.1)) < 0)) .fail
  (.ite (decide ((v_.2.length + 1) ≤ lim)) (.ret (.inl ((wi64 (v_.1 - 1)), (v_.2 ++ [(b8 (wu8 (shrI .i64 v (wi64 (8 * v_.1)))))])))) .fail))
 (.ret (.inr v_.2))
def bits_Put_2_s0 := fun v v_ => (bits_Put_2_s0t v v_).get
def bits_Put_2_l0 := fun v n b => iter (bits_Put_2_s0 v) n_ (n, b)
def bits_Put_2_t (b : List UInt8) (v : Int) (n : Int) : Tree (List UInt8) :=
 .ite (decide (n < 1)) (.ret b)
 (.ite (decide (n > 8)) (.ret b)
 (.opt (bits_Put_2_l0 n_ v (wi64 (n - 1)) b) fun r_1 =>
 .ret r_1))
def bits_Put_2 := fun b v n => (bits_Put_2_t n_ b v n).get
def bits_Text_2_t (b : List UInt8) (s : List UInt8) : Tree (List UInt8) :=
 .ite (decide ((s.length : Int) > 255)) (.ret b)
 (.ite (decide ((b.length + 1) ≤ lim)) (.ite (decide (((b ++ [(b8 (wu8 (s.length : Int)))]).length + s.length) ≤ lim)) (.ret ((b ++ [(b8 (wu8 (s.length : Int)))]) ++ s)) .fail) .fail)
def bits_Text_2 := fun b s => (bits_Text_2_t b s).get
def crc_Sum_s0t (t6 : List UInt8) (t7 : Int) (t8 : Int) (v_ : Int × Int) : Tree ((Int × Int) ⊕ Int) :=
 .ite (decide (v_.2 < 8)) (.ite ((band .u16 v_.1 1) == 1) (.ret (.inl ((bxor .u16 (shrI .u16 v_.1 1) 40961), (wi64 (v_.2 + 1)))))
  (.ret (.inl ((shrI .u16 v_.1 1), (wi64 (v_.2 + 1))))))
 (.ret (.inr v_.1))
def crc_Sum_s0 := fun t6 t7 t8 v_ => (crc_Sum_s0t t6 t7 t8 v_).get
def crc_Sum_l0 := fun t6 t7 t8 c t16 => iter (crc_Sum_s0 t6 t7 t8) n_ (c, t16)
def crc_Sum_s1t (t6 : List UInt8) (t7 : Int) (v_ : Int × Int) : Tree ((Int × Int) ⊕ Int) :=
 .ite (decide (v_.2 < t7)) (.ite (inR v_.2 t6.length) (.opt (t6[v_.2.toNat]?) fun y_1 =>
   .opt (crc_Sum_l0 n_ t6 t7 v_.2 (bxor .u16 v_.1 (wu16 (i8 y_1))) 0) fun r_2 =>
   .ret (.inl (r_2, (wi64 (v_.2 + 1))))) .fail)
 (.ret (.inr v_.1))
def crc_Sum_s1 := fun t6 t7 v_ => (crc_Sum_s1t n_ t6 t7 v_).get
def crc_Sum_l1 := fun t6 t7 c t8 => iter (crc_Sum_s1 n_ t6 t7) n_ (c, t8)
def crc_Sum_t (b : List UInt8) : Tree Int :=
 .opt (crc_Sum_l1 n_ b (b.length : Int) 0 0) fun r_1 =>
 .ret r_1
def crc_Sum := fun b => (crc_Sum_t n_ b).get
def msg_sealed_t (b : List UInt8) : Tree (List UInt8) :=
 .opt (crc_Sum n_ b) fun r_1 =>
 .opt (bits_Put_2 n_ b (wi64 r_1) 2) fun r_2 =>
 .ret r_2
def msg_sealed := fun b => (msg_sealed_t n_ b).get
def msg_PutAsk_s0t (t37 : List TWrite) (t38 : Int) (o0 : TAsk) (v_ : List UInt8 × Int) : Tree ((List UInt8 × Int) ⊕ (List UInt8)) :=
 .ite (decide (v_.2 < t38)) (.ite (inR v_.2 t37.length) (.opt (t37[v_.2.toNat]?) fun y_1 =>
   .opt (bits_Put_2 n_ v_.1 y_1.Off 1) fun r_2 =>
   .opt (bits_Text_2 r_2 y_1.B) fun r_3 =>
   .ret (.inl (r_3, (wi64 (v_.2 + 1))))) .fail)
 (.ret (.inr v_.1))
def msg_PutAsk_s0 := fun t37 t38 o0 v_ => (msg_PutAsk_s0t n_ t37 t38 o0 v_).get
def msg_PutAsk_l0 := fun t37 t38 o0 b t39 => iter (msg_PutAsk_s0 n_ t37 t38 o0) n_ (b, t39)
def msg_PutAsk_t (a : TAsk) : Tree (List UInt8) :=
 .opt (msg_MayAsk n_ a) fun r_1 =>
 .ite (!r_1) (.ret ([]))
 (.opt (bits_Put_2 n_ [] a.Kind 1) fun r_2 =>
 .opt (bits_Put_2 n_ r_2 a.From 1) fun r_3 =>
 .opt (bits_Put_2 n_ r_3 a.Epoch 4) fun r_4 =>
 .opt (bits_Put_2 n_ r_4 a.Seq 4) fun r_5 =>
 .opt (bits_Text_2 r_5 a.Name) fun r_6 =>
 .opt (bits_Put_2 n_ r_6 a.File 1) fun r_7 =>
 .opt (bits_Put_2 n_ r_7 a.Mode 1) fun r_8 =>
 .opt (bits_Put_2 n_ r_8 (a.Writes.length : Int) 1) fun r_9 =>
 .opt (msg_PutAsk_l0 n_ a.Writes (a.Writes.length : Int) a r_9 0) fun r_10 =>
 .opt (msg_sealed n_ r_10) fun r_11 =>
 .ret r_11)
def msg_PutAsk := fun a => (msg_PutAsk_t n_ a).get
def slices_Equal_byte_s0t (s1 : List UInt8) (s2 : List UInt8) (t12 : Int) (v_ : Int) : Tree (Int ⊕ (Unit ⊕ Unit)) :=
 .ite (decide (v_ < t12)) (.ite (inR v_ s1.length) (.opt (s1[v_.toNat]?) fun y_1 =>
   .ite (inR v_ s2.length) (.opt (s2[v_.toNat]?) fun y_2 =>
    .ite ((i8 y_1) != (i8 y_2)) (.ret (.inr (.inl ())))
    (.ret (.inl (wi64 (v_ + 1))))) .fail) .fail)
 (.ret (.inr (.inr ())))
def slices_Equal_byte_s0 := fun s1 s2 t12 v_ => (slices_Equal_byte_s0t s1 s2 t12 v_).get
def slices_Equal_byte_l0 := fun s1 s2 t12 t13 => iter (slices_Equal_byte_s0 s1 s2 t12) n_ t13
def slices_Equal_byte_t (s1 : List UInt8) (s2 : List UInt8) : Tree Bool :=
 .ite ((s1.length : Int) != (s2.length : Int)) (.ret false)
 (.opt (slices_Equal_byte_l0 n_ s1 s2 (s1.length : Int) 0) fun r_1 =>
 altT r_1 (fun a_2 =>
  .ret false) fun b_3 =>
 .ret true)
def slices_Equal_byte := fun s1 s2 => (slices_Equal_byte_t n_ s1 s2).get
def msg_takes_Ask_t (b : List UInt8) : Tree (TAsk × Bool) :=
 .opt (msg_reader_ask n_ (Tmsg_reader.mk b)) fun r_1 =>
 altT r_1 (fun a_2 =>
  .ite ((b.length : Int) == 0) (.ret ((TAsk.mk 0 0 0 0 [] 0 0 []), false))
  (.opt (msg_PutAsk n_ a_2.1) fun r_3 =>
  .opt (slices_Equal_byte n_ r_3 b) fun r_4 =>
  .ite (!r_4) (.ret ((TAsk.mk 0 0 0 0 [] 0 0 []), false))
  (.ret (a_2.1, true)))) fun b_5 =>
 .ret ((TAsk.mk 0 0 0 0 [] 0 0 []), false)
def msg_takes_Ask := fun b => (msg_takes_Ask_t n_ b).get
def msg_TakeAsk_t (b : List UInt8) : Tree (TAsk × Bool) :=
 .opt (msg_takes_Ask n_ b) fun r_1 =>
 .ret (r_1.1, r_1.2)
def msg_TakeAsk := fun b => (msg_TakeAsk_t n_ b).get
def mark_there_t (l : List TMark) (client : Int) : TT Bool :=
 .ite (decide (client ≥ 1)) (.ret (decide (client ≤ (l.length : Int))))
 (.ret false)
def mark_there := fun l client => (mark_there_t l client).val
def mark_Is_t (l : List TMark) (client : Int) (seq : Int) : Tree (TMark × Bool) :=
 .ite (!(mark_there l client)) (.ret ((TMark.mk 0 0 0 0), false))
 (.ite (decide (seq ≤ 0)) (.ret ((TMark.mk 0 0 0 0), false))
 (.ite (inR (wi64 (client - 1)) l.length) (.opt (l[(wi64 (client - 1)).toNat]?) fun y_1 =>
  .ite (y_1.Seq != seq) (.ret ((TMark.mk 0 0 0 0), false))
  (.ite (inR (wi64 (client - 1)) l.length) (.opt (l[(wi64 (client - 1)).toNat]?) fun y_2 =>
   .ret (y_2, true)) .fail)) .fail))
def mark_Is := fun l client seq => (mark_Is_t l client seq).get
def sess_Judge_t (epoch : Int) (seen : List Int) (told : List TTell) (marks : List TMark) (a : TAsk) : Tree (Int × TTell) :=
 .ite ((seen.length : Int) != (marks.length : Int)) (.ret (2, (TTell.mk 0 0 0 0 0 0 0 0 [])))
 (.ite ((told.length : Int) != (marks.length : Int)) (.ret (2, (TTell.mk 0 0 0 0 0 0 0 0 [])))
 (.ite (decide (a.From < 1)) (.ret (2, (TTell.mk 0 0 0 0 0 0 0 0 [])))
 (.ite (decide (a.From > (seen.length : Int))) (.ret (2, (TTell.mk 0 0 0 0 0 0 0 0 [])))
 (.ite (decide (a.Seq < 1)) (.ret (2, (TTell.mk 0 0 0 0 0 0 0 0 [])))
 (.ite (a.Epoch != epoch) (.ret (1, (TTell.mk 0 0 0 0 0 0 0 0 [])))
 (.ite (inR (wi64 (a.From - 1)) seen.length) (.opt (seen[(wi64 (a.From - 1)).toNat]?) fun y_1 =>
  .ite (decide (a.Seq < y_1)) (.ret (2, (TTell.mk 0 0 0 0 0 0 0 0 [])))
  (.ite (inR (wi64 (a.From - 1)) told.length) (.opt (told[(wi64 (a.From - 1)).toNat]?) fun y_2 =>
   .ite (y_2.Seq == a.Seq) (.ite (inR (wi64 (a.From - 1)) told.length) (.opt (told[(wi64 (a.From - 1)).toNat]?) fun y_3 =>
     .ret (3, y_3)) .fail)
   (.opt (mark_Is marks a.From a.Seq) fun r_4 =>
   .ite r_4.2 (.ret (3, (TTell.mk 1 a.From epoch a.Seq r_4.1.Err r_4.1.File 0 r_4.1.Ver [])))
   (.ret (4, (TTell.mk 0 0 0 0 0 0 0 0 []))))) .fail)) .fail))))))
def sess_Judge := fun epoch seen told marks a => (sess_Judge_t epoch seen told marks a).get
def server_host_done_t (client : Int) (t : TTell) (h : Tserver_host) : Tree Tserver_host :=
 .ite (decide (client ≥ 1)) (.ite (decide (client ≤ (h.Server.Told.length : Int))) (.ite (inR (wi64 (client - 1)) h.Server.Told.length) (.opt (h.Server.Told[(wi64 (client - 1)).toNat]?) fun y_1 =>
    .ite (decide (y_1.Seq ≤ t.Seq)) (.ite (inR (wi64 (client - 1)) h.Server.Told.length) (.opt (h.Server.Told[(wi64 (client - 1)).toNat]?) fun y_2 =>
      .ret (Tserver_host.mk (TServer.mk h.Server.Store h.Server.Desk h.Server.Seen (h.Server.Told.set (wi64 (client - 1)).toNat (TTell.mk 1 client h.Server.Store.S.Epoch t.Seq t.Err t.File t.Mode t.Ver t.Body)) h.Server.Now h.Server.Hush h.Server.Bad h.Server.Live h.Server.Recalled) [(TTell.mk 1 client h.Server.Store.S.Epoch t.Seq t.Err t.File t.Mode t.Ver t.Body)])) .fail)
    (.ret (Tserver_host.mk h.Server [(TTell.mk 1 client h.Server.Store.S.Epoch t.Seq t.Err t.File t.Mode t.Ver t.Body)]))) .fail)
  (.ret (Tserver_host.mk h.Server [(TTell.mk 1 client h.Server.Store.S.Epoch t.Seq t.Err t.File t.Mode t.Ver t.Body)])))
 (.ret (Tserver_host.mk h.Server [(TTell.mk 1 client h.Server.Store.S.Epoch t.Seq t.Err t.File t.Mode t.Ver t.Body)]))
def server_host_done := fun client t h => (server_host_done_t client t h).get
def server_host_says_t (a : TAsk) (t : TTell) (h : Tserver_host) : Tree Tserver_host :=
 .opt (server_host_done a.From (TTell.mk t.Kind t.To t.Epoch a.Seq t.Err t.File t.Mode t.Ver t.Body) (Tserver_host.mk h.Server [])) fun r_1 =>
 .ret r_1
def server_host_says := fun a t h => (server_host_says_t a t h).get
def state_twin (s : TState) : Unit := ()
def dir_number_c1 (f : TFile) (o0 : List UInt8) : Bool := (f.Name == o0)
def slices_IndexFunc_File_2_s0t (s : List TFile) (t7 : Int) (o0 : List UInt8) (v_ : Int) : Tree (Int ⊕ (Int ⊕ Unit)) :=
 .ite (decide (v_ < t7)) (.ite (inR v_ s.length) (.opt (s[v_.toNat]?) fun y_1 =>
   .ite (dir_number_c1 y_1 o0) (.ret (.inr (.inl v_)))
   (.ret (.inl (wi64 (v_ + 1))))) .fail)
 (.ret (.inr (.inr ())))
def slices_IndexFunc_File_2_s0 := fun s t7 o0 v_ => (slices_IndexFunc_File_2_s0t s t7 o0 v_).get
def slices_IndexFunc_File_2_l0 := fun s t7 o0 t8 => iter (slices_IndexFunc_File_2_s0 s t7 o0) n_ t8
def slices_IndexFunc_File_2_t (s : List TFile) (o0 : List UInt8) : Tree Int :=
 .opt (slices_IndexFunc_File_2_l0 n_ s (s.length : Int) o0 0) fun r_1 =>
 altT r_1 (fun a_2 =>
  .ret a_2) fun b_3 =>
 .ret (-1)
def slices_IndexFunc_File_2 := fun s o0 => (slices_IndexFunc_File_2_t n_ s o0).get
def dir_number_t (l : List TFile) (name : List UInt8) : Tree (Int × Bool) :=
 .opt (slices_IndexFunc_File_2 n_ l name) fun r_1 =>
 .ret ((wi64 (r_1 + 1)), (decide (r_1 ≥ 0)))
def dir_number := fun l name => (dir_number_t n_ l name).get
def dir_Find_t (l : List TFile) (name : List UInt8) : Tree (Int × Bool) :=
 .opt (dir_May n_ name) fun r_1 =>
 .ite (!r_1) (.ret (0, false))
 (.opt (dir_number n_ l name) fun r_2 =>
 .ret (r_2.1, r_2.2))
def dir_Find := fun l name => (dir_Find_t n_ l name).get
def dir_Room_t (l : List TFile) : Tree (Int × Bool) :=
 .opt (dir_number n_ l []) fun r_1 =>
 .ret (r_1.1, r_1.2)
def dir_Room := fun l => (dir_Room_t n_ l).get
def state_Open_c1_t (s : TState) (o3 : List UInt8) : Tree ((TMark × TState) ⊕ Tstate_refused) :=
 .opt (dir_May n_ o3) fun r_1 =>
 .ite (!r_1) (.ret (.inr (Tstate_refused.mk 1)))
 (.opt (dir_Find n_ s.Files o3) fun r_2 =>
 .ite (!r_2.2) (.opt (dir_Room n_ s.Files) fun r_3 =>
  .ite (!r_3.2) (.ret (.inr (Tstate_refused.mk 3)))
  (.ite (inR (wi64 (r_3.1 - 1)) s.Files.length) (.opt (s.Files[(wi64 (r_3.1 - 1)).toNat]?) fun y_4 =>
   .ite (inR (wi64 (r_3.1 - 1)) (s.Files.set (wi64 (r_3.1 - 1)).toNat (TFile.mk o3 1 [])).length) (.opt ((s.Files.set (wi64 (r_3.1 - 1)).toNat (TFile.mk o3 1 []))[(wi64 (r_3.1 - 1)).toNat]?) fun y_5 =>
    .ret (.inl ((TMark.mk 0 0 r_3.1 y_5.Ver), (TState.mk (s.Files.set (wi64 (r_3.1 - 1)).toNat (TFile.mk o3 1 [])) s.Marks s.Epoch)))) .fail) .fail))
 (.ite (inR (wi64 (r_2.1 - 1)) s.Files.length) (.opt (s.Files[(wi64 (r_2.1 - 1)).toNat]?) fun y_6 =>
  .ret (.inl ((TMark.mk 0 0 r_2.1 y_6.Ver), s))) .fail))
def state_Open_c1 := fun s o3 => (state_Open_c1_t n_ s o3).get
def mark_Put_t (l : List TMark) (client : Int) (m : TMark) : Tree (List TMark) :=
 .ite (mark_there l client) (.ite (inR (wi64 (client - 1)) l.length) (.opt (l[(wi64 (client - 1)).toNat]?) fun y_1 =>
   .ite (decide (m.Seq > y_1.Seq)) (.ite (inR (wi64 (client - 1)) l.length) (.opt (l[(wi64 (client - 1)).toNat]?) fun y_2 =>
     .ret (l.set (wi64 (client - 1)).toNat m)) .fail)
   (.ret l)) .fail)
 (.ret l)
def mark_Put := fun l client m => (mark_Put_t l client m).get
def state_twin_2 (s : TState) : Unit := ()
def state_work_t (s : TState) (client : Int) (seq : Int) (o0 : List UInt8) : Tree (TState × TMark) :=
 .opt (state_Open_c1 n_ s o0) fun r_1 =>
 altT r_1 (fun a_2 =>
  .opt (mark_Put a_2.2.Marks client (TMark.mk seq a_2.1.Err a_2.1.File a_2.1.Ver)) fun r_3 =>
  .ret ((TState.mk a_2.2.Files r_3 a_2.2.Epoch), (TMark.mk seq a_2.1.Err a_2.1.File a_2.1.Ver))) fun b_4 =>
 .opt (mark_Put s.Marks client (TMark.mk seq b_4.e 0 0)) fun r_5 =>
 .ret ((TState.mk s.Files r_5 s.Epoch), (TMark.mk seq b_4.e 0 0))
def state_work := fun s client seq o0 => (state_work_t n_ s client seq o0).get
def state_Open_t (s : TState) (client : Int) (seq : Int) (name : List UInt8) : Tree (TState × TMark) :=
 .opt (state_work n_ s client seq name) fun r_1 =>
 .ret (r_1.1, r_1.2)
def state_Open := fun s client seq name => (state_Open_t n_ s client seq name).get
def store_twin (s : TState) : Unit := ()
def jrnl_may_s0t (home : Int) (l : List TPut) (t10 : List TPut) (t11 : Int) (d : TDisk) (v_ : Int × Int) : Tree ((Int × Int) ⊕ (TPut ⊕ Unit)) :=
 .ite (decide (v_.2 < t11)) (.ite (inR v_.2 t10.length) (.opt (t10[v_.2.toNat]?) fun y_1 =>
   .ite (decide (y_1.At ≤ v_.1)) (.ret (.inr (.inl y_1)))
   (.ite (decide (y_1.At ≥ home)) (.ret (.inr (.inl y_1)))
   (.ite ((y_1.B.length : Int) != 32) (.ret (.inr (.inl y_1)))
   (.ret (.inl (y_1.At, (wi64 (v_.2 + 1)))))))) .fail)
 (.ret (.inr (.inr ())))
def jrnl_may_s0 := fun home l t10 t11 d v_ => (jrnl_may_s0t home l t10 t11 d v_).get
def jrnl_may_l0 := fun home l t10 t11 d last t12 => iter (jrnl_may_s0 home l t10 t11 d) n_ (last, t12)
def jrnl_may_t (d : TDisk) (home : Int) (l : List TPut) : Tree Bool :=
 .opt (jrnl_may_l0 n_ home l l (l.length : Int) d (-1) 0) fun r_1 =>
 altT r_1 (fun a_2 =>
  .ret false) fun b_3 =>
 .ite (decide ((l.length : Int) ≤ 16)) (.ret (decide ((wi64 (home + (l.length : Int))) < (d.Last.length : Int))))
 (.ret false)
def jrnl_may := fun d home l => (jrnl_may_t n_ d home l).get
def jrnl_noughts : Unit := ()
def jrnl_writer_does_t (d : TDisk) (ok : Bool) (w : Tjrnl_writer) : Tree (Tjrnl_writer ⊕ Tjrnl_writer) :=
 .ite (!ok) (.ret (.inr (Tjrnl_writer.mk d)))
 (.ret (.inl (Tjrnl_writer.mk d)))
def jrnl_writer_does := fun d ok w => (jrnl_writer_does_t d ok w).get
def jrnl_writer_write_t (i : Int) (b : List UInt8) (w : Tjrnl_writer) : Tree ((Tjrnl_writer × List (List UInt8) × List TPut) ⊕ (Tjrnl_writer × List (List UInt8) × List TPut)) :=
 .opt (disk_Write w.d i b) fun r_1 =>
 .opt (jrnl_writer_does r_1.1 r_1.2 w) fun r_2 =>
 altT r_2 (fun a_3 =>
  .ret (.inl (a_3, w.d.Last, w.d.Wait))) fun b_4 =>
 .ret (.inr (b_4, w.d.Last, w.d.Wait))
def jrnl_writer_write := fun i b w => (jrnl_writer_write_t i b w).get
def jrnl_writer_does_2_t (d : TDisk) (ok : Bool) (w : Tjrnl_writer) : Tree (Tjrnl_writer ⊕ Tjrnl_writer) :=
 .ite (!ok) (.ret (.inr (Tjrnl_writer.mk d)))
 (.ret (.inl (Tjrnl_writer.mk d)))
def jrnl_writer_does_2 := fun d ok w => (jrnl_writer_does_2_t d ok w).get
def jrnl_writer_flush_t (w : Tjrnl_writer) : Tree (Tjrnl_writer ⊕ Tjrnl_writer) :=
 .opt (disk_Flush n_ w.d) fun r_1 =>
 .opt (jrnl_writer_does_2 r_1.1 r_1.2 w) fun r_2 =>
 altT r_2 (fun a_3 =>
  .ret (.inl a_3)) fun b_4 =>
 .ret (.inr b_4)
def jrnl_writer_flush := fun w => (jrnl_writer_flush_t n_ w).get
def jrnl_writer_write_2_t (i : Int) (b : List UInt8) (w : Tjrnl_writer) : Tree (Tjrnl_writer ⊕ Tjrnl_writer) :=
 .opt (disk_Write w.d i b) fun r_1 =>
 .opt (jrnl_writer_does_2 r_1.1 r_1.2 w) fun r_2 =>
 altT r_2 (fun a_3 =>
  .ret (.inl a_3)) fun b_4 =>
 .ret (.inr b_4)
def jrnl_writer_write_2 := fun i b w => (jrnl_writer_write_2_t i b w).get
def jrnl_noughts_2 : Unit := ()
def jrnl_head_s0t (t16 : List TPut) (t17 : Int) (v_ : Int × List UInt8) : Tree ((Int × List UInt8) ⊕ (List UInt8)) :=
 .ite (decide (v_.1 < t17)) (.ite (inR v_.1 t16.length) (.opt (t16[v_.1.toNat]?) fun y_1 =>
   .ite (inR (wi64 (2 + v_.1)) v_.2.length) (.opt (v_.2[(wi64 (2 + v_.1)).toNat]?) fun y_2 =>
    .ret (.inl ((wi64 (v_.1 + 1)), (v_.2.set (wi64 (2 + v_.1)).toNat (b8 (wu8 y_1.At)))))) .fail) .fail)
 (.ret (.inr v_.2))
def jrnl_head_s0 := fun t16 t17 v_ => (jrnl_head_s0t t16 t17 v_).get
def jrnl_head_l0 := fun t16 t17 t18 b => iter (jrnl_head_s0 t16 t17) n_ (t18, b)
def jrnl_head_t (l : List TPut) : Tree (List UInt8) :=
 .ite (inR 1 ([0, 0, 0, 0, 0, 0, 0, 0, 0, 0, 0, 0, 0, 0, 0, 0, 0, 0, 0, 0, 0, 0, 0, 0, 0, 0, 0, 0, 0, 0, 0, 0].set 0 1).length) (.opt (([0, 0, 0, 0, 0, 0, 0, 0, 0, 0, 0, 0, 0, 0, 0, 0, 0, 0, 0, 0, 0, 0, 0, 0, 0, 0, 0, 0, 0, 0, 0, 0].set 0 1)[1]?) fun y_1 =>
  .ite (inR 31 (([0, 0, 0, 0, 0, 0, 0, 0, 0, 0, 0, 0, 0, 0, 0, 0, 0, 0, 0, 0, 0, 0, 0, 0, 0, 0, 0, 0, 0, 0, 0, 0].set 0 1).set 1 (b8 (wu8 (l.length : Int)))).length) (.opt ((([0, 0, 0, 0, 0, 0, 0, 0, 0, 0, 0, 0, 0, 0, 0, 0, 0, 0, 0, 0, 0, 0, 0, 0, 0, 0, 0, 0, 0, 0, 0, 0].set 0 1).set 1 (b8 (wu8 (l.length : Int))))[31]?) fun y_2 =>
   .opt (jrnl_head_l0 n_ l (l.length : Int) 0 ((([0, 0, 0, 0, 0, 0, 0, 0, 0, 0, 0, 0, 0, 0, 0, 0, 0, 0, 0, 0, 0, 0, 0, 0, 0, 0, 0, 0, 0, 0, 0, 0].set 0 1).set 1 (b8 (wu8 (l.length : Int)))).set 31 1)) fun r_3 =>
   .ret r_3) .fail) .fail
def jrnl_head := fun l => (jrnl_head_t n_ l).get
def jrnl_Commit_s0t (home : Int) (l : List TPut) (t54 : List TPut) (t55 : Int) (o0 : TDisk) (ok : Bool) (r4 : List (List UInt8)) (r5 : List TPut) (v_ : Int × TDisk × Tjrnl_writer) : Tree ((Int × TDisk × Tjrnl_writer) ⊕ ((TDisk × Tjrnl_writer × TPut) ⊕ (TDisk × Tjrnl_writer))) :=
 .ite (decide (v_.1 < t55)) (.ite (inR v_.1 t54.length) (.opt (t54[v_.1.toNat]?) fun y_1 =>
   .opt (jrnl_writer_write_2 (wi64 ((wi64 (home + 1)) + v_.1)) y_1.B v_.2.2) fun r_2 =>
   altT r_2 (fun a_3 =>
    .ret (.inl ((wi64 (v_.1 + 1)), (TDisk.mk [] [] v_.2.1.Arm v_.2.1.Down), a_3))) fun b_4 =>
   .ret (.inr (.inl ((TDisk.mk [] [] v_.2.1.Arm v_.2.1.Down), b_4, y_1)))) .fail)
 (.ret (.inr (.inr ((TDisk.mk [] [] v_.2.1.Arm v_.2.1.Down), v_.2.2))))
def jrnl_Commit_s0 := fun home l t54 t55 o0 ok r4 r5 v_ => (jrnl_Commit_s0t home l t54 t55 o0 ok r4 r5 v_).get
def jrnl_Commit_l0 := fun home l t54 t55 o0 ok r4 r5 t56 x w => iter (jrnl_Commit_s0 home l t54 t55 o0 ok r4 r5) n_ (t56, x, w)
def jrnl_Commit_s1t (t79 : List TPut) (t80 : Int) (o0 : TDisk) (ok : Bool) (r4 : List (List UInt8)) (r5 : List TPut) (v_ : Int × TDisk × Tjrnl_writer) : Tree ((Int × TDisk × Tjrnl_writer) ⊕ ((TDisk × Tjrnl_writer × TPut) ⊕ (TDisk × Tjrnl_writer))) :=
 .ite (decide (v_.1 < t80)) (.ite (inR v_.1 t79.length) (.opt (t79[v_.1.toNat]?) fun y_1 =>
   .opt (jrnl_writer_write_2 y_1.At y_1.B v_.2.2) fun r_2 =>
   altT r_2 (fun a_3 =>
    .ret (.inl ((wi64 (v_.1 + 1)), (TDisk.mk [] [] v_.2.1.Arm v_.2.1.Down), a_3))) fun b_4 =>
   .ret (.inr (.inl ((TDisk.mk [] [] v_.2.1.Arm v_.2.1.Down), b_4, y_1)))) .fail)
 (.ret (.inr (.inr ((TDisk.mk [] [] v_.2.1.Arm v_.2.1.Down), v_.2.2))))
def jrnl_Commit_s1 := fun t79 t80 o0 ok r4 r5 v_ => (jrnl_Commit_s1t t79 t80 o0 ok r4 r5 v_).get
def jrnl_Commit_l1 := fun t79 t80 o0 ok r4 r5 t81 x w => iter (jrnl_Commit_s1 t79 t80 o0 ok r4 r5) n_ (t81, x, w)
def jrnl_Commit_t (d : TDisk) (home : Int) (l : List TPut) : Tree (TDisk × Bool) :=
 .ite ((l.length : Int) == 0) (.ret (d, true))
 (.opt (jrnl_may n_ d home l) fun r_1 =>
 .ite (!r_1) (.ret (d, false))
 (.opt (jrnl_writer_write home [0, 0, 0, 0, 0, 0, 0, 0, 0, 0, 0, 0, 0, 0, 0, 0, 0, 0, 0, 0, 0, 0, 0, 0, 0, 0, 0, 0, 0, 0, 0, 0] (Tjrnl_writer.mk d)) fun r_2 =>
 altT r_2 (fun a_3 =>
  .opt (jrnl_writer_flush n_ a_3.1) fun r_4 =>
  altT r_4 (fun a_5 =>
   .opt (jrnl_Commit_l0 n_ home l l (l.length : Int) d false a_3.2.1 a_3.2.2 0 (TDisk.mk [] [] 0 false) a_5) fun r_6 =>
   altT r_6 (fun a_7 =>
    .ret (a_7.2.1.d, false)) fun b_8 =>
   .opt (jrnl_writer_flush n_ b_8.2) fun r_9 =>
   altT r_9 (fun a_10 =>
    .opt (jrnl_head n_ l) fun r_11 =>
    .opt (jrnl_writer_write_2 home r_11 a_10) fun r_12 =>
    altT r_12 (fun a_13 =>
     .opt (jrnl_writer_flush n_ a_13) fun r_14 =>
     altT r_14 (fun a_15 =>
      .opt (jrnl_Commit_l1 n_ l (l.length : Int) d false a_3.2.1 a_3.2.2 0 (TDisk.mk [] [] b_8.1.Arm b_8.1.Down) a_15) fun r_16 =>
      altT r_16 (fun a_17 =>
       .ret (a_17.2.1.d, false)) fun b_18 =>
      .opt (jrnl_writer_flush n_ b_18.2) fun r_19 =>
      altT r_19 (fun a_20 =>
       .ret (a_20.d, true)) fun b_21 =>
      .ret (b_21.d, false)) fun b_22 =>
     .ret (b_22.d, false)) fun b_23 =>
    .ret (b_23.d, false)) fun b_24 =>
   .ret (b_24.d, false)) fun b_25 =>
  .ret (b_25.d, false)) fun b_26 =>
 .ret (b_26.1.d, false)))
def jrnl_Commit := fun d home l => (jrnl_Commit_t n_ d home l).get
def image_Diff_s0t (a : List (List UInt8)) (t7 : List (List UInt8)) (t8 : Int) (v_ : Int × List TPut) : Tree ((Int × List TPut) ⊕ (List TPut)) :=
 .ite (decide (v_.1 < t8)) (.ite (inR v_.1 t7.length) (.opt (t7[v_.1.toNat]?) fun y_1 =>
   .ite (decide (v_.1 ≥ (a.length : Int))) (.ite (decide ((v_.2.length + 1) ≤ lim)) (.ret (.inl ((wi64 (v_.1 + 1)), (v_.2 ++ [(TPut.mk v_.1 y_1)])))) .fail)
   (.ite (inR v_.1 a.length) (.opt (a[v_.1.toNat]?) fun y_2 =>
    .ite (!(y_2 == y_1)) (.ite (decide ((v_.2.length + 1) ≤ lim)) (.ret (.inl ((wi64 (v_.1 + 1)), (v_.2 ++ [(TPut.mk v_.1 y_1)])))) .fail)
    (.ret (.inl ((wi64 (v_.1 + 1)), v_.2)))) .fail)) .fail)
 (.ret (.inr v_.2))
def image_Diff_s0 := fun a t7 t8 v_ => (image_Diff_s0t a t7 t8 v_).get
def image_Diff_l0 := fun a t7 t8 t9 l => iter (image_Diff_s0 a t7 t8) n_ (t9, l)
def image_Diff_t (a : List (List UInt8)) (b : List (List UInt8)) : Tree (List TPut) :=
 .opt (image_Diff_l0 n_ a b (b.length : Int) 0 []) fun r_1 =>
 .ret r_1
def image_Diff := fun a b => (image_Diff_t n_ a b).get
def store_Commit_t (st : TStore) (s : TState) : Tree (TStore × Bool) :=
 .opt (image_Put n_ s) fun r_1 =>
 .ite ((r_1.length : Int) == 0) (.opt (jrnl_Commit n_ st.D 0 []) fun r_2 =>
  .ret ((TStore.mk r_2.1 st.S), false))
 (.opt (store_home n_) fun r_3 =>
 .opt (image_Put n_ st.S) fun r_4 =>
 .opt (image_Diff n_ r_4 r_1) fun r_5 =>
 .opt (jrnl_Commit n_ st.D r_3 r_5) fun r_6 =>
 .ite r_6.2 (.ret ((TStore.mk r_6.1 s), r_6.2))
 (.ret ((TStore.mk r_6.1 st.S), r_6.2)))
def store_Commit := fun st s => (store_Commit_t n_ st s).get
def server_host_commits_t (s : TState) (h : Tserver_host) : Tree ((Tserver_host × List (List UInt8) × List TPut) ⊕ (Tserver_host × List (List UInt8) × List TPut)) :=
 .opt (store_Commit n_ h.Server.Store s) fun r_1 =>
 .ite (!r_1.2) (.ret (.inr ((Tserver_host.mk (TServer.mk r_1.1 h.Server.Desk h.Server.Seen h.Server.Told h.Server.Now h.Server.Hush h.Server.Bad h.Server.Live h.Server.Recalled) []), h.Server.Store.D.Last, h.Server.Store.D.Wait)))
 (.ret (.inl ((Tserver_host.mk (TServer.mk r_1.1 h.Server.Desk h.Server.Seen h.Server.Told h.Server.Now h.Server.Hush h.Server.Bad h.Server.Live h.Server.Recalled) []), h.Server.Store.D.Last, h.Server.Store.D.Wait)))
def server_host_commits := fun s h => (server_host_commits_t n_ s h).get
def server_host_done_2_t (client : Int) (t : TTell) (h : Tserver_host) : Tree Tserver_host :=
 .ite (decide (client ≥ 1)) (.ite (decide (client ≤ (h.Server.Told.length : Int))) (.ite (inR (wi64 (client - 1)) h.Server.Told.length) (.opt (h.Server.Told[(wi64 (client - 1)).toNat]?) fun y_1 =>
    .ite (decide (y_1.Seq ≤ t.Seq)) (.ite (inR (wi64 (client - 1)) h.Server.Told.length) (.opt (h.Server.Told[(wi64 (client - 1)).toNat]?) fun y_2 =>
      .ret (Tserver_host.mk (TServer.mk h.Server.Store h.Server.Desk h.Server.Seen (h.Server.Told.set (wi64 (client - 1)).toNat (TTell.mk 1 client h.Server.Store.S.Epoch t.Seq t.Err t.File t.Mode t.Ver t.Body)) h.Server.Now h.Server.Hush h.Server.Bad h.Server.Live h.Server.Recalled) [(TTell.mk 1 client h.Server.Store.S.Epoch t.Seq t.Err t.File t.Mode t.Ver t.Body)])) .fail)
    (.ret (Tserver_host.mk h.Server [(TTell.mk 1 client h.Server.Store.S.Epoch t.Seq t.Err t.File t.Mode t.Ver t.Body)]))) .fail)
  (.ret (Tserver_host.mk h.Server [(TTell.mk 1 client h.Server.Store.S.Epoch t.Seq t.Err t.File t.Mode t.Ver t.Body)])))
 (.ret (Tserver_host.mk h.Server [(TTell.mk 1 client h.Server.Store.S.Epoch t.Seq t.Err t.File t.Mode t.Ver t.Body)]))
def server_host_done_2 := fun client t h => (server_host_done_2_t client t h).get
def server_host_says_2_t (a : TAsk) (t : TTell) (h : Tserver_host) : Tree Tserver_host :=
 .opt (server_host_done_2 a.From (TTell.mk t.Kind t.To t.Epoch a.Seq t.Err t.File t.Mode t.Ver t.Body) (Tserver_host.mk h.Server [])) fun r_1 =>
 .ret r_1
def server_host_says_2 := fun a t h => (server_host_says_2_t a t h).get
def server_host_marked_t (a : TAsk) (m : TMark) (h : Tserver_host) : Tree Tserver_host :=
 .opt (server_host_says_2 a (TTell.mk 0 0 0 0 m.Err m.File 0 m.Ver []) (Tserver_host.mk h.Server [])) fun r_1 =>
 .ret r_1
def server_host_marked := fun a m h => (server_host_marked_t a m h).get
def server_host_opens_t (a : TAsk) (h : Tserver_host) : Tree ((Tserver_host × List (List UInt8) × List TPut × List TFile × List TMark) ⊕ (Tserver_host × List (List UInt8) × List TPut × List TFile × List TMark)) :=
 .opt (state_Open n_ h.Server.Store.S a.From a.Seq a.Name) fun r_1 =>
 .opt (server_host_commits n_ r_1.1 (Tserver_host.mk h.Server [])) fun r_2 =>
 altT r_2 (fun a_3 =>
  .opt (server_host_marked a r_1.2 (Tserver_host.mk a_3.1.Server [])) fun r_4 =>
  .ret (.inl (r_4, a_3.2.1, a_3.2.2, h.Server.Store.S.Files, h.Server.Store.S.Marks))) fun b_5 =>
 .ret (.inr ((Tserver_host.mk b_5.1.Server []), b_5.2.1, b_5.2.2, h.Server.Store.S.Files, h.Server.Store.S.Marks))
def server_host_opens := fun a h => (server_host_opens_t n_ a h).get
def server_host_there_t (n : Int) (h : Tserver_host) : Tree Bool :=
 .ite (decide (n ≥ 1)) (.ite (decide (n ≤ (h.Server.Store.S.Files.length : Int))) (.ite (inR (wi64 (n - 1)) h.Server.Store.S.Files.length) (.opt (h.Server.Store.S.Files[(wi64 (n - 1)).toNat]?) fun y_1 =>
    .ret (!(y_1.Name == []))) .fail)
  (.ret false))
 (.ret false)
def server_host_there := fun n h => (server_host_there_t n h).get
def lease_Prune_c1 (x : TLease) (o0 : Int) : Bool := (decide (x.Until ≤ o0))
def slices_IndexFunc_Lease_s0t (s : List TLease) (t7 : Int) (o0 : Int) (v_ : Int) : Tree (Int ⊕ (Int ⊕ Unit)) :=
 .ite (decide (v_ < t7)) (.ite (inR v_ s.length) (.opt (s[v_.toNat]?) fun y_1 =>
   .ite (lease_Prune_c1 y_1 o0) (.ret (.inr (.inl v_)))
   (.ret (.inl (wi64 (v_ + 1))))) .fail)
 (.ret (.inr (.inr ())))
def slices_IndexFunc_Lease_s0 := fun s t7 o0 v_ => (slices_IndexFunc_Lease_s0t s t7 o0 v_).get
def slices_IndexFunc_Lease_l0 := fun s t7 o0 t8 => iter (slices_IndexFunc_Lease_s0 s t7 o0) n_ t8
def slices_IndexFunc_Lease_t (s : List TLease) (o0 : Int) : Tree Int :=
 .opt (slices_IndexFunc_Lease_l0 n_ s (s.length : Int) o0 0) fun r_1 =>
 altT r_1 (fun a_2 =>
  .ret a_2) fun b_3 =>
 .ret (-1)
def slices_IndexFunc_Lease := fun s o0 => (slices_IndexFunc_Lease_t n_ s o0).get
def slices_DeleteFunc_Lease_s0t (o1 : Int) (v_ : Int × Int × List TLease) : Tree ((Int × Int × List TLease) ⊕ (Int × List TLease)) :=
 .ite (decide (v_.2.1 < (v_.2.2.length : Int))) (.ite (inR v_.2.1 v_.2.2.length) (.opt (v_.2.2[v_.2.1.toNat]?) fun y_1 =>
   .ite (!(lease_Prune_c1 y_1 o1)) (.ite (inR v_.1 v_.2.2.length) (.opt (v_.2.2[v_.1.toNat]?) fun y_2 =>
     .ret (.inl ((wi64 (v_.1 + 1)), (wi64 (v_.2.1 + 1)), (v_.2.2.set v_.1.toNat y_1)))) .fail)
   (.ret (.inl (v_.1, (wi64 (v_.2.1 + 1)), v_.2.2)))) .fail)
 (.ret (.inr (v_.1, v_.2.2)))
def slices_DeleteFunc_Lease_s0 := fun o1 v_ => (slices_DeleteFunc_Lease_s0t o1 v_).get
def slices_DeleteFunc_Lease_l0 := fun o1 i j s => iter (slices_DeleteFunc_Lease_s0 o1) n_ (i, j, s)
def slices_DeleteFunc_Lease_t (o1 : Int) (r0 : List TLease) : Tree (List TLease) :=
 .opt (slices_IndexFunc_Lease n_ r0 o1) fun r_1 =>
 .ite (r_1 == (-1)) (.ret r0)
 (.opt (slices_DeleteFunc_Lease_l0 n_ o1 r_1 (wi64 (r_1 + 1)) r0) fun r_2 =>
 .ite (inR r_2.1 r_2.2.length) (.ret (cutL r_2.2 0 r_2.1)) .fail)
def slices_DeleteFunc_Lease := fun o1 r0 => (slices_DeleteFunc_Lease_t n_ o1 r0).get
def lease_Prune_t (l : List TLease) (now : Int) : Tree (List TLease) :=
 .opt (slices_DeleteFunc_Lease n_ now l) fun r_1 =>
 .ret r_1
def lease_Prune := fun l now => (lease_Prune_t n_ l now).get
def desk_pruned_t (d : TDesk) (now : Int) : Tree TDesk :=
 .opt (lease_Prune n_ d.Leases now) fun r_1 =>
 .ret (TDesk.mk r_1 d.Line)
def desk_pruned := fun d now => (desk_pruned_t n_ d now).get
def cmp_isNaN_int (x : Int) : Bool := (x != x)
def cmp_Compare_int_t (x : Int) (y : Int) : TT Int :=
 .ite (cmp_isNaN_int x) (.ite (cmp_isNaN_int y) (.ret 0)
  (.ret (-1)))
 (.ite (cmp_isNaN_int y) (.ret 1)
 (.ite (decide (x < y)) (.ret (-1))
 (.ite (decide (x > y)) (.ret 1)
 (.ret 0))))
def cmp_Compare_int := fun x y => (cmp_Compare_int_t x y).val
def cmp_Or_int_s0t (zero : Int) (t6 : List Int) (t7 : Int) (v_ : Int) : Tree (Int ⊕ (Int ⊕ Unit)) :=
 .ite (decide (v_ < t7)) (.ite (inR v_ t6.length) (.opt (t6[v_.toNat]?) fun y_1 =>
   .ite (y_1 != zero) (.ret (.inr (.inl y_1)))
   (.ret (.inl (wi64 (v_ + 1))))) .fail)
 (.ret (.inr (.inr ())))
def cmp_Or_int_s0 := fun zero t6 t7 v_ => (cmp_Or_int_s0t zero t6 t7 v_).get
def cmp_Or_int_l0 := fun zero t6 t7 t8 => iter (cmp_Or_int_s0 zero t6 t7) n_ t8
def cmp_Or_int_t (vals : List Int) : Tree Int :=
 .opt (cmp_Or_int_l0 n_ 0 vals (vals.length : Int) 0) fun r_1 =>
 altT r_1 (fun a_2 =>
  .ret a_2) fun b_3 =>
 .ret 0
def cmp_Or_int := fun vals => (cmp_Or_int_t n_ vals).get
def lease_order_t (a : TLease) (b : TLease) : Tree Int :=
 .opt (cmp_Or_int n_ [(cmp_Compare_int a.File b.File), (cmp_Compare_int a.Client b.Client)]) fun r_1 =>
 .ret r_1
def lease_order := fun a b => (lease_order_t n_ a b).get
def slices_BinarySearchFunc_Lease_s0t (x : List TLease) (n : Int) (target : TLease) (v_ : Int × Int) : Tree ((Int × Int) ⊕ Int) :=
 .ite (decide (v_.1 < v_.2)) (.ite (inR (wi64 (shrI .u64 (wu64 (wi64 (v_.1 + v_.2))) 1)) x.length) (.opt (x[(wi64 (shrI .u64 (wu64 (wi64 (v_.1 + v_.2))) 1)).toNat]?) fun y_1 =>
   .opt (lease_order n_ y_1 target) fun r_2 =>
   .ite (decide (r_2 < 0)) (.ret (.inl ((wi64 ((wi64 (shrI .u64 (wu64 (wi64 (v_.1 + v_.2))) 1)) + 1)), v_.2)))
   (.ret (.inl (v_.1, (wi64 (shrI .u64 (wu64 (wi64 (v_.1 + v_.2))) 1)))))) .fail)
 (.ret (.inr v_.1))
def slices_BinarySearchFunc_Lease_s0 := fun x n target v_ => (slices_BinarySearchFunc_Lease_s0t n_ x n target v_).get
def slices_BinarySearchFunc_Lease_l0 := fun x n target i j => iter (slices_BinarySearchFunc_Lease_s0 n_ x n target) n_ (i, j)
def slices_BinarySearchFunc_Lease_t (x : List TLease) (target : TLease) : Tree (Int × Bool) :=
 .opt (slices_BinarySearchFunc_Lease_l0 n_ x (x.length : Int) target 0 (x.length : Int)) fun r_1 =>
 .ite (decide (r_1 < (x.length : Int))) (.ite (inR r_1 x.length) (.opt (x[r_1.toNat]?) fun y_2 =>
   .opt (lease_order n_ y_2 target) fun r_3 =>
   .ret (r_1, (r_3 == 0))) .fail)
 (.ret (r_1, false))
def slices_BinarySearchFunc_Lease := fun x target => (slices_BinarySearchFunc_Lease_t n_ x target).get
def lease_Holds_t (l : List TLease) (now : Int) (client : Int) (file : Int) : Tree Int :=
 .opt (slices_BinarySearchFunc_Lease n_ l (TLease.mk client file 0 0)) fun r_1 =>
 .ite (!r_1.2) (.ret 0)
 (.ite (inR r_1.1 l.length) (.opt (l[r_1.1.toNat]?) fun y_2 =>
  .ite (decide (now ≥ y_2.Until)) (.ret 0)
  (.ite (inR r_1.1 l.length) (.opt (l[r_1.1.toNat]?) fun y_3 =>
   .ret y_3.Mode) .fail)) .fail)
def lease_Holds := fun l now client file => (lease_Holds_t n_ l now client file).get
def lease_Clash_s0t (l : List TLease) (now : Int) (client : Int) (file : Int) (mode : Int) (t14 : List TLease) (t15 : Int) (v_ : Int × List Int) : Tree ((Int × List Int) ⊕ (List Int)) :=
 .ite (decide (v_.1 < t15)) (.ite (inR v_.1 t14.length) (.opt (t14[v_.1.toNat]?) fun y_1 =>
   .ite (y_1.File != file) (.ret (.inl ((wi64 (v_.1 + 1)), v_.2)))
   (.ite (y_1.Client == client) (.ret (.inl ((wi64 (v_.1 + 1)), v_.2)))
   (.opt (lease_Holds n_ l now y_1.Client file) fun r_2 =>
   .ite (r_2 != 0) (.ite (mode == 2) (.ite (decide ((v_.2.length + 1) ≤ lim)) (.ret (.inl ((wi64 (v_.1 + 1)), (v_.2 ++ [y_1.Client])))) .fail)
    (.ite (r_2 == 2) (.ite (decide ((v_.2.length + 1) ≤ lim)) (.ret (.inl ((wi64 (v_.1 + 1)), (v_.2 ++ [y_1.Client])))) .fail)
    (.ret (.inl ((wi64 (v_.1 + 1)), v_.2)))))
   (.ret (.inl ((wi64 (v_.1 + 1)), v_.2)))))) .fail)
 (.ret (.inr v_.2))
def lease_Clash_s0 := fun l now client file mode t14 t15 v_ => (lease_Clash_s0t n_ l now client file mode t14 t15 v_).get
def lease_Clash_l0 := fun l now client file mode t14 t15 t16 out => iter (lease_Clash_s0 n_ l now client file mode t14 t15) n_ (t16, out)
def lease_Clash_t (l : List TLease) (now : Int) (client : Int) (file : Int) (mode : Int) : Tree (List Int) :=
 .opt (lease_Clash_l0 n_ l now client file mode l (l.length : Int) 0 []) fun r_1 =>
 .ret r_1
def lease_Clash := fun l now client file mode => (lease_Clash_t n_ l now client file mode).get
def desk_clash_t (d : TDesk) (now : Int) (w : TWait) : Tree (List Int) :=
 .opt (lease_Clash n_ d.Leases now w.Client w.File w.Mode) fun r_1 =>
 .ret r_1
def desk_clash := fun d now w => (desk_clash_t n_ d now w).get
def line_Ahead_s0t (client : Int) (file : Int) (t9 : List TWait) (t10 : Int) (v_ : Int) : Tree (Int ⊕ ((Bool × TWait) ⊕ Unit)) :=
 .ite (decide (v_ < t10)) (.ite (inR v_ t9.length) (.opt (t9[v_.toNat]?) fun y_1 =>
   .ite (y_1.File != file) (.ret (.inl (wi64 (v_ + 1))))
   (.ret (.inr (.inl ((y_1.Client != client), y_1))))) .fail)
 (.ret (.inr (.inr ())))
def line_Ahead_s0 := fun client file t9 t10 v_ => (line_Ahead_s0t client file t9 t10 v_).get
def line_Ahead_l0 := fun client file t9 t10 t11 => iter (line_Ahead_s0 client file t9 t10) n_ t11
def line_Ahead_t (l : List TWait) (client : Int) (file : Int) : Tree Bool :=
 .opt (line_Ahead_l0 n_ client file l (l.length : Int) 0) fun r_1 =>
 altT r_1 (fun a_2 =>
  .ret a_2.1) fun b_3 =>
 .ret false
def line_Ahead := fun l client file => (line_Ahead_t n_ l client file).get
def desk_may_t (d : TDesk) (now : Int) (w : TWait) : Tree Bool :=
 .opt (desk_clash n_ d now w) fun r_1 =>
 .ite ((r_1.length : Int) == 0) (.opt (line_Ahead n_ d.Line w.Client w.File) fun r_2 =>
  .ret (!r_2))
 (.ret false)
def desk_may := fun d now w => (desk_may_t n_ d now w).get
def clock_Add_t (a : Int) (b : Int) : TT Int :=
 .ite (decide (a > 0)) (.ite (decide (b > (wi64 (9223372036854775807 - a)))) (.ret 9223372036854775807)
  (.ret (wi64 (a + b))))
 (.ret (wi64 (a + b)))
def clock_Add := fun a b => (clock_Add_t a b).val
def lease_Grant_t (l : List TLease) (x : TLease) : Tree (List TLease) :=
 .opt (slices_BinarySearchFunc_Lease n_ l x) fun r_1 =>
 .ite (!r_1.2) (.ite (insOk l r_1.1 [x]) (.ret (insL l r_1.1 [x])) .fail)
 (.ite (inR r_1.1 l.length) (.opt (l[r_1.1.toNat]?) fun y_2 =>
  .ite (inR r_1.1 l.length) (.opt (l[r_1.1.toNat]?) fun y_3 =>
   .ite (inR r_1.1 l.length) (.opt (l[r_1.1.toNat]?) fun y_4 =>
    .ite (inR r_1.1 (l.set r_1.1.toNat (TLease.mk y_4.Client y_4.File (imax y_2.Mode x.Mode) y_4.Until)).length) (.opt ((l.set r_1.1.toNat (TLease.mk y_4.Client y_4.File (imax y_2.Mode x.Mode) y_4.Until))[r_1.1.toNat]?) fun y_5 =>
     .ret ((l.set r_1.1.toNat (TLease.mk y_4.Client y_4.File (imax y_2.Mode x.Mode) y_4.Until)).set r_1.1.toNat (TLease.mk y_5.Client y_5.File y_5.Mode (imax y_3.Until x.Until)))) .fail) .fail) .fail) .fail)
def lease_Grant := fun l x => (lease_Grant_t n_ l x).get
def line_Drop_c1 (w : TWait) (o0 : Int) : Bool := (w.Client == o0)
def slices_IndexFunc_Wait_s0t (s : List TWait) (t7 : Int) (o0 : Int) (v_ : Int) : Tree (Int ⊕ (Int ⊕ Unit)) :=
 .ite (decide (v_ < t7)) (.ite (inR v_ s.length) (.opt (s[v_.toNat]?) fun y_1 =>
   .ite (line_Drop_c1 y_1 o0) (.ret (.inr (.inl v_)))
   (.ret (.inl (wi64 (v_ + 1))))) .fail)
 (.ret (.inr (.inr ())))
def slices_IndexFunc_Wait_s0 := fun s t7 o0 v_ => (slices_IndexFunc_Wait_s0t s t7 o0 v_).get
def slices_IndexFunc_Wait_l0 := fun s t7 o0 t8 => iter (slices_IndexFunc_Wait_s0 s t7 o0) n_ t8
def slices_IndexFunc_Wait_t (s : List TWait) (o0 : Int) : Tree Int :=
 .opt (slices_IndexFunc_Wait_l0 n_ s (s.length : Int) o0 0) fun r_1 =>
 altT r_1 (fun a_2 =>
  .ret a_2) fun b_3 =>
 .ret (-1)
def slices_IndexFunc_Wait := fun s o0 => (slices_IndexFunc_Wait_t n_ s o0).get
def slices_DeleteFunc_Wait_s0t (o1 : Int) (v_ : Int × Int × List TWait) : Tree ((Int × Int × List TWait) ⊕ (Int × List TWait)) :=
 .ite (decide (v_.2.1 < (v_.2.2.length : Int))) (.ite (inR v_.2.1 v_.2.2.length) (.opt (v_.2.2[v_.2.1.toNat]?) fun y_1 =>
   .ite (!(line_Drop_c1 y_1 o1)) (.ite (inR v_.1 v_.2.2.length) (.opt (v_.2.2[v_.1.toNat]?) fun y_2 =>
     .ret (.inl ((wi64 (v_.1 + 1)), (wi64 (v_.2.1 + 1)), (v_.2.2.set v_.1.toNat y_1)))) .fail)
   (.ret (.inl (v_.1, (wi64 (v_.2.1 + 1)), v_.2.2)))) .fail)
 (.ret (.inr (v_.1, v_.2.2)))
def slices_DeleteFunc_Wait_s0 := fun o1 v_ => (slices_DeleteFunc_Wait_s0t o1 v_).get
def slices_DeleteFunc_Wait_l0 := fun o1 i j s => iter (slices_DeleteFunc_Wait_s0 o1) n_ (i, j, s)
def slices_DeleteFunc_Wait_t (o1 : Int) (r0 : List TWait) : Tree (List TWait) :=
 .opt (slices_IndexFunc_Wait n_ r0 o1) fun r_1 =>
 .ite (r_1 == (-1)) (.ret r0)
 (.opt (slices_DeleteFunc_Wait_l0 n_ o1 r_1 (wi64 (r_1 + 1)) r0) fun r_2 =>
 .ite (inR r_2.1 r_2.2.length) (.ret (cutL r_2.2 0 r_2.1)) .fail)
def slices_DeleteFunc_Wait := fun o1 r0 => (slices_DeleteFunc_Wait_t n_ o1 r0).get
def line_Drop_t (l : List TWait) (client : Int) : Tree (List TWait) :=
 .opt (slices_DeleteFunc_Wait n_ client l) fun r_1 =>
 .ret r_1
def line_Drop := fun l client => (line_Drop_t n_ l client).get
def desk_lets_t (d : TDesk) (now : Int) (w : TWait) : Tree TDesk :=
 .opt (lease_Grant n_ d.Leases (TLease.mk w.Client w.File w.Mode (clock_Add now 60))) fun r_1 =>
 .opt (line_Drop n_ d.Line w.Client) fun r_2 =>
 .ret (TDesk.mk r_1 r_2)
def desk_lets := fun d now w => (desk_lets_t n_ d now w).get
def line_place_c1 (w : TWait) (o0 : Int) : Bool := (w.Client == o0)
def slices_IndexFunc_Wait_2_s0t (s : List TWait) (t7 : Int) (o0 : Int) (v_ : Int) : Tree (Int ⊕ (Int ⊕ Unit)) :=
 .ite (decide (v_ < t7)) (.ite (inR v_ s.length) (.opt (s[v_.toNat]?) fun y_1 =>
   .ite (line_place_c1 y_1 o0) (.ret (.inr (.inl v_)))
   (.ret (.inl (wi64 (v_ + 1))))) .fail)
 (.ret (.inr (.inr ())))
def slices_IndexFunc_Wait_2_s0 := fun s t7 o0 v_ => (slices_IndexFunc_Wait_2_s0t s t7 o0 v_).get
def slices_IndexFunc_Wait_2_l0 := fun s t7 o0 t8 => iter (slices_IndexFunc_Wait_2_s0 s t7 o0) n_ t8
def slices_IndexFunc_Wait_2_t (s : List TWait) (o0 : Int) : Tree Int :=
 .opt (slices_IndexFunc_Wait_2_l0 n_ s (s.length : Int) o0 0) fun r_1 =>
 altT r_1 (fun a_2 =>
  .ret a_2) fun b_3 =>
 .ret (-1)
def slices_IndexFunc_Wait_2 := fun s o0 => (slices_IndexFunc_Wait_2_t n_ s o0).get
def line_place_t (l : List TWait) (client : Int) : Tree Int :=
 .opt (slices_IndexFunc_Wait_2 n_ l client) fun r_1 =>
 .ret r_1
def line_place := fun l client => (line_place_t n_ l client).get
def line_Drop_2_t (l : List TWait) (client : Int) : Tree (List TWait) :=
 .opt (slices_DeleteFunc_Wait n_ client l) fun r_1 =>
 .ret r_1
def line_Drop_2 := fun l client => (line_Drop_2_t n_ l client).get
def line_Put_t (l : List TWait) (w : TWait) : Tree (List TWait × Bool) :=
 .opt (line_place n_ l w.Client) fun r_1 =>
 .ite (decide (r_1 ≥ 0)) (.ite (inR r_1 l.length) (.opt (l[r_1.toNat]?) fun y_2 =>
   .ite (y_2.File == w.File) (.ite (inR r_1 l.length) (.opt (l[r_1.toNat]?) fun y_3 =>
     .ret ((l.set r_1.toNat w), true)) .fail)
   (.opt (line_Drop_2 n_ l w.Client) fun r_4 =>
   .ite (decide ((r_4.length : Int) ≥ 4)) (.ret (l, false))
   (.ite (decide ((r_4.length + 1) ≤ lim)) (.ret ((r_4 ++ [w]), true)) .fail))) .fail)
 (.opt (line_Drop_2 n_ l w.Client) fun r_5 =>
 .ite (decide ((r_5.length : Int) ≥ 4)) (.ret (l, false))
 (.ite (decide ((r_5.length + 1) ≤ lim)) (.ret ((r_5 ++ [w]), true)) .fail))
def line_Put := fun l w => (line_Put_t n_ l w).get
def desk_Ask_t (d : TDesk) (now : Int) (w : TWait) : Tree (TDesk × Bool × List Int × Int) :=
 .opt (desk_pruned n_ d now) fun r_1 =>
 .opt (desk_may n_ r_1 now w) fun r_2 =>
 .ite r_2 (.opt (desk_lets n_ r_1 now w) fun r_3 =>
  .ret (r_3, true, [], 0))
 (.opt (line_Put n_ r_1.Line w) fun r_4 =>
 .ite (!r_4.2) (.ret (r_1, false, [], 3))
 (.opt (desk_clash n_ (TDesk.mk r_1.Leases r_4.1) now w) fun r_5 =>
 .ret ((TDesk.mk r_1.Leases r_4.1), false, r_5, 0)))
def desk_Ask := fun d now w => (desk_Ask_t n_ d now w).get
def server_host_there_2_t (n : Int) (h : Tserver_host) : Tree Bool :=
 .ite (decide (n ≥ 1)) (.ite (decide (n ≤ (h.Server.Store.S.Files.length : Int))) (.ite (inR (wi64 (n - 1)) h.Server.Store.S.Files.length) (.opt (h.Server.Store.S.Files[(wi64 (n - 1)).toNat]?) fun y_1 =>
    .ret (!(y_1.Name == []))) .fail)
  (.ret false))
 (.ret false)
def server_host_there_2 := fun n h => (server_host_there_2_t n h).get
def server_host_done_3_t (client : Int) (t : TTell) (h : Tserver_host) : Tree Tserver_host :=
 .ite (decide (client ≥ 1)) (.ite (decide (client ≤ (h.Server.Told.length : Int))) (.ite (inR (wi64 (client - 1)) h.Server.Told.length) (.opt (h.Server.Told[(wi64 (client - 1)).toNat]?) fun y_1 =>
    .ite (decide (y_1.Seq ≤ t.Seq)) (.ite (inR (wi64 (client - 1)) h.Server.Told.length) (.opt (h.Server.Told[(wi64 (client - 1)).toNat]?) fun y_2 =>
      .ret (Tserver_host.mk (TServer.mk h.Server.Store h.Server.Desk h.Server.Seen (h.Server.Told.set (wi64 (client - 1)).toNat (TTell.mk 1 client h.Server.Store.S.Epoch t.Seq t.Err t.File t.Mode t.Ver t.Body)) h.Server.Now h.Server.Hush h.Server.Bad h.Server.Live h.Server.Recalled) [(TTell.mk 1 client h.Server.Store.S.Epoch t.Seq t.Err t.File t.Mode t.Ver t.Body)])) .fail)
    (.ret (Tserver_host.mk h.Server [(TTell.mk 1 client h.Server.Store.S.Epoch t.Seq t.Err t.File t.Mode t.Ver t.Body)]))) .fail)
  (.ret (Tserver_host.mk h.Server [(TTell.mk 1 client h.Server.Store.S.Epoch t.Seq t.Err t.File t.Mode t.Ver t.Body)])))
 (.ret (Tserver_host.mk h.Server [(TTell.mk 1 client h.Server.Store.S.Epoch t.Seq t.Err t.File t.Mode t.Ver t.Body)]))
def server_host_done_3 := fun client t h => (server_host_done_3_t client t h).get
def server_host_done_4_t (client : Int) (t : TTell) (h : Tserver_host) : Tree Tserver_host :=
 .ite (decide (client ≥ 1)) (.ite (decide (client ≤ (h.Server.Told.length : Int))) (.ite (inR (wi64 (client - 1)) h.Server.Told.length) (.opt (h.Server.Told[(wi64 (client - 1)).toNat]?) fun y_1 =>
    .ite (decide (y_1.Seq ≤ t.Seq)) (.ite (inR (wi64 (client - 1)) h.Server.Told.length) (.opt (h.Server.Told[(wi64 (client - 1)).toNat]?) fun y_2 =>
      .ret (Tserver_host.mk (TServer.mk h.Server.Store h.Server.Desk h.Server.Seen (h.Server.Told.set (wi64 (client - 1)).toNat (TTell.mk 1 client h.Server.Store.S.Epoch t.Seq t.Err t.File t.Mode t.Ver t.Body)) h.Server.Now h.Server.Hush h.Server.Bad h.Server.Live h.Server.Recalled) [(TTell.mk 1 client h.Server.Store.S.Epoch t.Seq t.Err t.File t.Mode t.Ver t.Body)])) .fail)
    (.ret (Tserver_host.mk h.Server [(TTell.mk 1 client h.Server.Store.S.Epoch t.Seq t.Err t.File t.Mode t.Ver t.Body)]))) .fail)
  (.ret (Tserver_host.mk h.Server [(TTell.mk 1 client h.Server.Store.S.Epoch t.Seq t.Err t.File t.Mode t.Ver t.Body)])))
 (.ret (Tserver_host.mk h.Server [(TTell.mk 1 client h.Server.Store.S.Epoch t.Seq t.Err t.File t.Mode t.Ver t.Body)]))
def server_host_done_4 := fun client t h => (server_host_done_4_t client t h).get
def server_host_lent_t (w : TWait) (h : Tserver_host) : Tree (Tserver_host ⊕ Tserver_host) :=
 .opt (lease_Holds n_ h.Server.Desk.Leases h.Server.Now w.Client w.File) fun r_1 =>
 .opt (server_host_there_2 w.File (Tserver_host.mk h.Server [])) fun r_2 =>
 .ite r_2 (.ite (inR (wi64 (w.File - 1)) h.Server.Store.S.Files.length) (.opt (h.Server.Store.S.Files[(wi64 (w.File - 1)).toNat]?) fun y_3 =>
   .opt (server_host_done_3 w.Client (TTell.mk 0 0 0 w.Seq 0 w.File r_1 y_3.Ver y_3.Body) (Tserver_host.mk h.Server [])) fun r_4 =>
   .ret (.inr r_4)) .fail)
 (.opt (server_host_done_4 w.Client (TTell.mk 0 0 0 w.Seq 0 w.File r_1 0 []) (Tserver_host.mk h.Server [])) fun r_5 =>
 .ret (.inl r_5))
def server_host_lent := fun w h => (server_host_lent_t n_ w h).get
def server_host_calls_t (client : Int) (file : Int) (h : Tserver_host) : Tree Tserver_host :=
 .ite (decide ((h.told.length + 1) ≤ lim)) (.ret (Tserver_host.mk h.Server (h.told ++ [(TTell.mk 2 client h.Server.Store.S.Epoch 0 0 file 0 0 [])]))) .fail
def server_host_calls := fun client file h => (server_host_calls_t client file h).get
def server_host_says_3_t (a : TAsk) (t : TTell) (h : Tserver_host) : Tree Tserver_host :=
 .opt (server_host_done_4 a.From (TTell.mk t.Kind t.To t.Epoch a.Seq t.Err t.File t.Mode t.Ver t.Body) (Tserver_host.mk h.Server [])) fun r_1 =>
 .ret r_1
def server_host_says_3 := fun a t h => (server_host_says_3_t a t h).get
def server_host_calls_2 (client : Int) (file : Int) (h : Tserver_host) : Tserver_host := (Tserver_host.mk h.Server [(TTell.mk 2 client h.Server.Store.S.Epoch 0 0 file 0 0 [])])
def server_host_lends_s0t (t64 : List Int) (t65 : Int) (a : TAsk) (o10 : TWait) (o11 : TDesk) (r5 : List TLease) (r6 : List TWait) (v_ : Int × Tserver_host) : Tree ((Int × Tserver_host) ⊕ Tserver_host) :=
 .ite (decide (v_.1 < t65)) (.ite (inR v_.1 t64.length) (.opt (t64[v_.1.toNat]?) fun y_1 =>
   .opt (server_host_calls y_1 a.File v_.2) fun r_2 =>
   .ret (.inl ((wi64 (v_.1 + 1)), r_2))) .fail)
 (.ret (.inr v_.2))
def server_host_lends_s0 := fun t64 t65 a o10 o11 r5 r6 v_ => (server_host_lends_s0t t64 t65 a o10 o11 r5 r6 v_).get
def server_host_lends_l0 := fun t64 t65 a o10 o11 r5 r6 t66 h => iter (server_host_lends_s0 t64 t65 a o10 o11 r5 r6) n_ (t66, h)
def server_host_lends_s1t (t64 : List Int) (t65 : Int) (a : TAsk) (o10 : TWait) (o11 : TDesk) (r5 : List TLease) (r6 : List TWait) (v_ : Int × Tserver_host) : Tree ((Int × Tserver_host) ⊕ Tserver_host) :=
 .ite (decide (v_.1 < t65)) (.ite (inR v_.1 t64.length) (.opt (t64[v_.1.toNat]?) fun y_1 =>
   .opt (server_host_calls y_1 a.File v_.2) fun r_2 =>
   .ret (.inl ((wi64 (v_.1 + 1)), r_2))) .fail)
 (.ret (.inr v_.2))
def server_host_lends_s1 := fun t64 t65 a o10 o11 r5 r6 v_ => (server_host_lends_s1t t64 t65 a o10 o11 r5 r6 v_).get
def server_host_lends_l1 := fun t64 t65 a o10 o11 r5 r6 t66 h => iter (server_host_lends_s1 t64 t65 a o10 o11 r5 r6) n_ (t66, h)
def server_host_lends_s2t (t64 : List Int) (t65 : Int) (a : TAsk) (o10 : TWait) (o11 : TDesk) (r5 : List TLease) (r6 : List TWait) (v_ : Int × Tserver_host) : Tree ((Int × Tserver_host) ⊕ Tserver_host) :=
 .ite (decide (v_.1 < t65)) (.ite (inR v_.1 t64.length) (.opt (t64[v_.1.toNat]?) fun y_1 =>
   .opt (server_host_calls y_1 a.File v_.2) fun r_2 =>
   .ret (.inl ((wi64 (v_.1 + 1)), r_2))) .fail)
 (.ret (.inr v_.2))
def server_host_lends_s2 := fun t64 t65 a o10 o11 r5 r6 v_ => (server_host_lends_s2t t64 t65 a o10 o11 r5 r6 v_).get
def server_host_lends_l2 := fun t64 t65 a o10 o11 r5 r6 t66 h => iter (server_host_lends_s2 t64 t65 a o10 o11 r5 r6) n_ (t66, h)
def server_host_lends_t (a : TAsk) (h : Tserver_host) : Tree (Tserver_host ⊕ ((Tserver_host × List TLease × List TWait) ⊕ ((Tserver_host × List TLease × List TWait) ⊕ (Tserver_host × List TLease × List TWait)))) :=
 .opt (server_host_there a.File (Tserver_host.mk h.Server [])) fun r_1 =>
 .ite (!r_1) (.opt (server_host_says a (TTell.mk 0 0 0 0 2 0 0 0 []) (Tserver_host.mk h.Server [])) fun r_2 =>
  .ret (.inl r_2))
 (.opt (desk_Ask n_ h.Server.Desk h.Server.Now (TWait.mk a.From a.Seq a.File a.Mode)) fun r_3 =>
 .ite r_3.2.1 (.opt (server_host_lent n_ (TWait.mk a.From a.Seq a.File a.Mode) (Tserver_host.mk (TServer.mk h.Server.Store r_3.1 h.Server.Seen h.Server.Told h.Server.Now h.Server.Hush h.Server.Bad h.Server.Live h.Server.Recalled) [])) fun r_4 =>
  altT r_4 (fun a_5 =>
   .opt (server_host_lends_l0 n_ r_3.2.2.1 (r_3.2.2.1.length : Int) a (TWait.mk a.From a.Seq a.File a.Mode) r_3.1 h.Server.Desk.Leases h.Server.Desk.Line 0 a_5) fun r_6 =>
   .ret (.inr (.inr (.inl (r_6, h.Server.Desk.Leases, h.Server.Desk.Line))))) fun b_7 =>
  .opt (server_host_lends_l1 n_ r_3.2.2.1 (r_3.2.2.1.length : Int) a (TWait.mk a.From a.Seq a.File a.Mode) r_3.1 h.Server.Desk.Leases h.Server.Desk.Line 0 b_7) fun r_8 =>
  .ret (.inr (.inr (.inr (r_8, h.Server.Desk.Leases, h.Server.Desk.Line)))))
 (.ite (r_3.2.2.2 != 0) (.opt (server_host_says_3 a (TTell.mk 0 0 0 0 r_3.2.2.2 0 0 0 []) (Tserver_host.mk (TServer.mk h.Server.Store r_3.1 h.Server.Seen h.Server.Told h.Server.Now h.Server.Hush h.Server.Bad h.Server.Live h.Server.Recalled) [])) fun r_9 =>
  .opt (server_host_lends_l0 n_ r_3.2.2.1 (r_3.2.2.1.length : Int) a (TWait.mk a.From a.Seq a.File a.Mode) r_3.1 h.Server.Desk.Leases h.Server.Desk.Line 0 r_9) fun r_10 =>
  .ret (.inr (.inr (.inl (r_10, h.Server.Desk.Leases, h.Server.Desk.Line)))))
 (.opt (server_host_lends_l2 n_ r_3.2.2.1 (r_3.2.2.1.length : Int) a (TWait.mk a.From a.Seq a.File a.Mode) r_3.1 h.Server.Desk.Leases h.Server.Desk.Line 0 (Tserver_host.mk (TServer.mk h.Server.Store r_3.1 h.Server.Seen h.Server.Told h.Server.Now h.Server.Hush h.Server.Bad h.Server.Live h.Server.Recalled) [])) fun r_11 =>
 .ret (.inr (.inl (r_11, h.Server.Desk.Leases, h.Server.Desk.Line))))))
def server_host_lends := fun a h => (server_host_lends_t n_ a h).get
def state_there_t (n : Int) (s : TState) : Tree (Nat ⊕ Unit) :=
 .ite (decide (n < 1)) (.ret (.inr ()))
 (.ite (decide (n > (s.Files.length : Int))) (.ret (.inr ()))
 (.ite (inR (wi64 (n - 1)) s.Files.length) (.opt (s.Files[(wi64 (n - 1)).toNat]?) fun y_1 =>
  .ite (y_1.Name == []) (.ret (.inr ()))
  (.ite (inR (wi64 (n - 1)) s.Files.length) (.ret (.inl ((wi64 (n - 1)).toNat))) .fail)) .fail))
def state_there := fun n s => (state_there_t n s).get
def state_Flush_c1_c1 (w : TWrite) : Bool := (!(file_May w))
def slices_IndexFunc_Write_2_s0t (s : List TWrite) (t7 : Int) (v_ : Int) : Tree (Int ⊕ (Int ⊕ Unit)) :=
 .ite (decide (v_ < t7)) (.ite (inR v_ s.length) (.opt (s[v_.toNat]?) fun y_1 =>
   .ite (state_Flush_c1_c1 y_1) (.ret (.inr (.inl v_)))
   (.ret (.inl (wi64 (v_ + 1))))) .fail)
 (.ret (.inr (.inr ())))
def slices_IndexFunc_Write_2_s0 := fun s t7 v_ => (slices_IndexFunc_Write_2_s0t s t7 v_).get
def slices_IndexFunc_Write_2_l0 := fun s t7 t8 => iter (slices_IndexFunc_Write_2_s0 s t7) n_ t8
def slices_IndexFunc_Write_2_t (s : List TWrite) : Tree Int :=
 .opt (slices_IndexFunc_Write_2_l0 n_ s (s.length : Int) 0) fun r_1 =>
 altT r_1 (fun a_2 =>
  .ret a_2) fun b_3 =>
 .ret (-1)
def slices_IndexFunc_Write_2 := fun s => (slices_IndexFunc_Write_2_t n_ s).get
def slices_ContainsFunc_Write_2_t (s : List TWrite) : Tree Bool :=
 .opt (slices_IndexFunc_Write_2 n_ s) fun r_1 =>
 .ret (decide (r_1 ≥ 0))
def slices_ContainsFunc_Write_2 := fun s => (slices_ContainsFunc_Write_2_t n_ s).get
def file_Put_t (body : List UInt8) (w : TWrite) : Tree (List UInt8) :=
 .ite (!(file_May w)) (.ret body)
 (.ite (decide ((wi64 (w.Off - (body.length : Int))) > 0)) (.ite (repOk ([0] : List UInt8) (wi64 (w.Off - (body.length : Int)))) (.ite (decide ((body.length + (repL ([0] : List UInt8) (wi64 (w.Off - (body.length : Int)))).length) ≤ lim)) (.ite (cutOk 0 w.Off (body ++ (repL ([0] : List UInt8) (wi64 (w.Off - (body.length : Int))))).length) (.ite (decide (((cutL (body ++ (repL ([0] : List UInt8) (wi64 (w.Off - (body.length : Int))))) 0 w.Off).length + w.B.length) ≤ lim)) (.ite (cutOk (imin (wi64 (w.Off + (w.B.length : Int))) ((body ++ (repL ([0] : List UInt8) (wi64 (w.Off - (body.length : Int))))).length : Int)) ((body ++ (repL ([0] : List UInt8) (wi64 (w.Off - (body.length : Int))))).length : Int) (body ++ (repL ([0] : List UInt8) (wi64 (w.Off - (body.length : Int))))).length) (.ite (decide ((((cutL (body ++ (repL ([0] : List UInt8) (wi64 (w.Off - (body.length : Int))))) 0 w.Off) ++ w.B).length + (cutL (body ++ (repL ([0] : List UInt8) (wi64 (w.Off - (body.length : Int))))) (imin (wi64 (w.Off + (w.B.length : Int))) ((body ++ (repL ([0] : List UInt8) (wi64 (w.Off - (body.length : Int))))).length : Int)) ((body ++ (repL ([0] : List UInt8) (wi64 (w.Off - (body.length : Int))))).length : Int)).length) ≤ lim)) (.ret (((cutL (body ++ (repL ([0] : List UInt8) (wi64 (w.Off - (body.length : Int))))) 0 w.Off) ++ w.B) ++ (cutL (body ++ (repL ([0] : List UInt8) (wi64 (w.Off - (body.length : Int))))) (imin (wi64 (w.Off + (w.B.length : Int))) ((body ++ (repL ([0] : List UInt8) (wi64 (w.Off - (body.length : Int))))).length : Int)) ((body ++ (repL ([0] : List UInt8) (wi64 (w.Off - (body.length : Int))))).length : Int)))) .fail) .fail) .fail) .fail) .fail) .fail)
 (.ite (cutOk 0 w.Off body.length) (.ite (decide (((cutL body 0 w.Off).length + w.B.length) ≤ lim)) (.ite (cutOk (imin (wi64 (w.Off + (w.B.length : Int))) (body.length : Int)) (body.length : Int) body.length) (.ite (decide ((((cutL body 0 w.Off) ++ w.B).length + (cutL body (imin (wi64 (w.Off + (w.B.length : Int))) (body.length : Int)) (body.length : Int)).length) ≤ lim)) (.ret (((cutL body 0 w.Off) ++ w.B) ++ (cutL body (imin (wi64 (w.Off + (w.B.length : Int))) (body.length : Int)) (body.length : Int)))) .fail) .fail) .fail) .fail))
def file_Put := fun body w => (file_Put_t body w).get
def file_All_s0t (t7 : List TWrite) (t8 : Int) (v_ : List UInt8 × Int) : Tree ((List UInt8 × Int) ⊕ (List UInt8)) :=
 .ite (decide (v_.2 < t8)) (.ite (inR v_.2 t7.length) (.opt (t7[v_.2.toNat]?) fun y_1 =>
   .opt (file_Put v_.1 y_1) fun r_2 =>
   .ret (.inl (r_2, (wi64 (v_.2 + 1))))) .fail)
 (.ret (.inr v_.1))
def file_All_s0 := fun t7 t8 v_ => (file_All_s0t t7 t8 v_).get
def file_All_l0 := fun t7 t8 body t9 => iter (file_All_s0 t7 t8) n_ (body, t9)
def file_All_t (body : List UInt8) (l : List TWrite) : Tree (List UInt8) :=
 .opt (file_All_l0 n_ l (l.length : Int) body 0) fun r_1 =>
 .ret r_1
def file_All := fun body l => (file_All_t n_ body l).get
def state_Flush_c1_t (s : TState) (o3 : Int) (o4 : List TWrite) : Tree ((TMark × TState) ⊕ Tstate_refused) :=
 .opt (state_there o3 s) fun r_1 =>
 altT r_1 (fun a_2 =>
  .ite ((o4.length : Int) == 0) (.ret (.inr (Tstate_refused.mk 1)))
  (.ite (decide ((o4.length : Int) > 5)) (.ret (.inr (Tstate_refused.mk 1)))
  (.opt (slices_ContainsFunc_Write_2 n_ o4) fun r_3 =>
  .ite r_3 (.ret (.inr (Tstate_refused.mk 1)))
  (.opt (s.Files[a_2]?) fun y_4 =>
  .opt (file_All n_ y_4.Body o4) fun r_5 =>
  .opt (s.Files[a_2]?) fun y_6 =>
  .opt (s.Files[a_2]?) fun y_7 =>
  .opt ((s.Files.set a_2 (TFile.mk y_7.Name y_7.Ver r_5))[a_2]?) fun y_8 =>
  .opt (((s.Files.set a_2 (TFile.mk y_7.Name y_7.Ver r_5)).set a_2 (TFile.mk y_8.Name (imin (wi64 (y_6.Ver + 1)) 1073741824) y_8.Body))[a_2]?) fun y_9 =>
  .ret (.inl ((TMark.mk 0 0 o3 y_9.Ver), (TState.mk ((s.Files.set a_2 (TFile.mk y_7.Name y_7.Ver r_5)).set a_2 (TFile.mk y_8.Name (imin (wi64 (y_6.Ver + 1)) 1073741824) y_8.Body)) s.Marks s.Epoch))))))) fun b_10 =>
 .ret (.inr (Tstate_refused.mk 2))
def state_Flush_c1 := fun s o3 o4 => (state_Flush_c1_t n_ s o3 o4).get
def state_work_2_t (s : TState) (client : Int) (seq : Int) (o0 : Int) (o1 : List TWrite) : Tree (TState × TMark) :=
 .opt (state_Flush_c1 n_ s o0 o1) fun r_1 =>
 altT r_1 (fun a_2 =>
  .opt (mark_Put a_2.2.Marks client (TMark.mk seq a_2.1.Err a_2.1.File a_2.1.Ver)) fun r_3 =>
  .ret ((TState.mk a_2.2.Files r_3 a_2.2.Epoch), (TMark.mk seq a_2.1.Err a_2.1.File a_2.1.Ver))) fun b_4 =>
 .opt (mark_Put s.Marks client (TMark.mk seq b_4.e 0 0)) fun r_5 =>
 .ret ((TState.mk s.Files r_5 s.Epoch), (TMark.mk seq b_4.e 0 0))
def state_work_2 := fun s client seq o0 o1 => (state_work_2_t n_ s client seq o0 o1).get
def state_Flush_t (s : TState) (client : Int) (seq : Int) (n : Int) (l : List TWrite) : Tree (TState × TMark) :=
 .opt (state_work_2 n_ s client seq n l) fun r_1 =>
 .ret (r_1.1, r_1.2)
def state_Flush := fun s client seq n l => (state_Flush_t n_ s client seq n l).get
def server_host_flushes_t (a : TAsk) (h : Tserver_host) : Tree (Tserver_host ⊕ ((Tserver_host × List (List UInt8) × List TPut × List TFile × List TMark) ⊕ (Tserver_host × List (List UInt8) × List TPut × List TFile × List TMark))) :=
 .opt (lease_Holds n_ h.Server.Desk.Leases h.Server.Now a.From a.File) fun r_1 =>
 .ite (r_1 != 2) (.opt (server_host_says a (TTell.mk 0 0 0 0 6 0 0 0 []) (Tserver_host.mk h.Server [])) fun r_2 =>
  .ret (.inl r_2))
 (.opt (server_host_there a.File (Tserver_host.mk h.Server [])) fun r_3 =>
 .ite (!r_3) (.opt (server_host_says a (TTell.mk 0 0 0 0 6 0 0 0 []) (Tserver_host.mk h.Server [])) fun r_4 =>
  .ret (.inl r_4))
 (.opt (state_Flush n_ h.Server.Store.S a.From a.Seq a.File a.Writes) fun r_5 =>
 .opt (server_host_commits n_ r_5.1 (Tserver_host.mk h.Server [])) fun r_6 =>
 altT r_6 (fun a_7 =>
  .opt (server_host_marked a r_5.2 (Tserver_host.mk a_7.1.Server [])) fun r_8 =>
  .ret (.inr (.inl (r_8, a_7.2.1, a_7.2.2, h.Server.Store.S.Files, h.Server.Store.S.Marks)))) fun b_9 =>
 .ret (.inr (.inr ((Tserver_host.mk b_9.1.Server []), b_9.2.1, b_9.2.2, h.Server.Store.S.Files, h.Server.Store.S.Marks)))))
def server_host_flushes := fun a h => (server_host_flushes_t n_ a h).get
def lease_Drop_c1_t (x : TLease) (o0 : Int) (o1 : Int) : TT Bool :=
 .ite (x.Client == o0) (.ret (x.File == o1))
 (.ret false)
def lease_Drop_c1 := fun x o0 o1 => (lease_Drop_c1_t x o0 o1).val
def slices_IndexFunc_Lease_2_s0t (s : List TLease) (t7 : Int) (o0 : Int) (o1 : Int) (v_ : Int) : Tree (Int ⊕ (Int ⊕ Unit)) :=
 .ite (decide (v_ < t7)) (.ite (inR v_ s.length) (.opt (s[v_.toNat]?) fun y_1 =>
   .ite (lease_Drop_c1 y_1 o0 o1) (.ret (.inr (.inl v_)))
   (.ret (.inl (wi64 (v_ + 1))))) .fail)
 (.ret (.inr (.inr ())))
def slices_IndexFunc_Lease_2_s0 := fun s t7 o0 o1 v_ => (slices_IndexFunc_Lease_2_s0t s t7 o0 o1 v_).get
def slices_IndexFunc_Lease_2_l0 := fun s t7 o0 o1 t8 => iter (slices_IndexFunc_Lease_2_s0 s t7 o0 o1) n_ t8
def slices_IndexFunc_Lease_2_t (s : List TLease) (o0 : Int) (o1 : Int) : Tree Int :=
 .opt (slices_IndexFunc_Lease_2_l0 n_ s (s.length : Int) o0 o1 0) fun r_1 =>
 altT r_1 (fun a_2 =>
  .ret a_2) fun b_3 =>
 .ret (-1)
def slices_IndexFunc_Lease_2 := fun s o0 o1 => (slices_IndexFunc_Lease_2_t n_ s o0 o1).get
def slices_DeleteFunc_Lease_2_s0t (o1 : Int) (o2 : Int) (v_ : Int × Int × List TLease) : Tree ((Int × Int × List TLease) ⊕ (Int × List TLease)) :=
 .ite (decide (v_.2.1 < (v_.2.2.length : Int))) (.ite (inR v_.2.1 v_.2.2.length) (.opt (v_.2.2[v_.2.1.toNat]?) fun y_1 =>
   .ite (!(lease_Drop_c1 y_1 o1 o2)) (.ite (inR v_.1 v_.2.2.length) (.opt (v_.2.2[v_.1.toNat]?) fun y_2 =>
     .ret (.inl ((wi64 (v_.1 + 1)), (wi64 (v_.2.1 + 1)), (v_.2.2.set v_.1.toNat y_1)))) .fail)
   (.ret (.inl (v_.1, (wi64 (v_.2.1 + 1)), v_.2.2)))) .fail)
 (.ret (.inr (v_.1, v_.2.2)))
def slices_DeleteFunc_Lease_2_s0 := fun o1 o2 v_ => (slices_DeleteFunc_Lease_2_s0t o1 o2 v_).get
def slices_DeleteFunc_Lease_2_l0 := fun o1 o2 i j s => iter (slices_DeleteFunc_Lease_2_s0 o1 o2) n_ (i, j, s)
def slices_DeleteFunc_Lease_2_t (o1 : Int) (o2 : Int) (r0 : List TLease) : Tree (List TLease) :=
 .opt (slices_IndexFunc_Lease_2 n_ r0 o1 o2) fun r_1 =>
 .ite (r_1 == (-1)) (.ret r0)
 (.opt (slices_DeleteFunc_Lease_2_l0 n_ o1 o2 r_1 (wi64 (r_1 + 1)) r0) fun r_2 =>
 .ite (inR r_2.1 r_2.2.length) (.ret (cutL r_2.2 0 r_2.1)) .fail)
def slices_DeleteFunc_Lease_2 := fun o1 o2 r0 => (slices_DeleteFunc_Lease_2_t n_ o1 o2 r0).get
def lease_Drop_t (l : List TLease) (client : Int) (file : Int) : Tree (List TLease) :=
 .opt (slices_DeleteFunc_Lease_2 n_ client file l) fun r_1 =>
 .ret r_1
def lease_Drop := fun l client file => (lease_Drop_t n_ l client file).get
def desk_Give_t (d : TDesk) (client : Int) (file : Int) : Tree TDesk :=
 .opt (lease_Drop n_ d.Leases client file) fun r_1 =>
 .ret (TDesk.mk r_1 d.Line)
def desk_Give := fun d client file => (desk_Give_t n_ d client file).get
def server_host_takesBack_t (a : TAsk) (h : Tserver_host) : Tree ((Tserver_host × List TLease × List TWait) ⊕ ((Tserver_host × List TLease × List TWait) ⊕ ((Tserver_host × List (List UInt8) × List TPut × List TFile × List TMark × List TLease × List TWait) ⊕ (Tserver_host × List (List UInt8) × List TPut × List TFile × List TMark)))) :=
 .ite (decide ((a.Writes.length : Int) > 0)) (.opt (server_host_flushes n_ a (Tserver_host.mk h.Server [])) fun r_1 =>
  altT r_1 (fun a_2 =>
   .opt (desk_Give n_ a_2.Server.Desk a.From a.File) fun r_3 =>
   .ret (.inr (.inl ((Tserver_host.mk (TServer.mk a_2.Server.Store r_3 a_2.Server.Seen a_2.Server.Told a_2.Server.Now a_2.Server.Hush a_2.Server.Bad a_2.Server.Live a_2.Server.Recalled) a_2.told), a_2.Server.Desk.Leases, a_2.Server.Desk.Line)))) fun b_4 =>
  altT b_4 (fun a_5 =>
   .opt (desk_Give n_ a_5.1.Server.Desk a.From a.File) fun r_6 =>
   .ret (.inr (.inr (.inl ((Tserver_host.mk (TServer.mk a_5.1.Server.Store r_6 a_5.1.Server.Seen a_5.1.Server.Told a_5.1.Server.Now a_5.1.Server.Hush a_5.1.Server.Bad a_5.1.Server.Live a_5.1.Server.Recalled) a_5.1.told), a_5.2.1, a_5.2.2.1, a_5.2.2.2.1, a_5.2.2.2.2, a_5.1.Server.Desk.Leases, a_5.1.Server.Desk.Line))))) fun b_7 =>
  .ret (.inr (.inr (.inr ((Tserver_host.mk b_7.1.Server []), b_7.2.1, b_7.2.2.1, b_7.2.2.2.1, b_7.2.2.2.2)))))
 (.opt (server_host_says a (TTell.mk 0 0 0 0 0 a.File 0 0 []) (Tserver_host.mk h.Server [])) fun r_8 =>
 .opt (desk_Give n_ r_8.Server.Desk a.From a.File) fun r_9 =>
 .ret (.inl ((Tserver_host.mk (TServer.mk r_8.Server.Store r_9 r_8.Server.Seen r_8.Server.Told r_8.Server.Now r_8.Server.Hush r_8.Server.Bad r_8.Server.Live r_8.Server.Recalled) r_8.told), r_8.Server.Desk.Leases, r_8.Server.Desk.Line)))
def server_host_takesBack := fun a h => (server_host_takesBack_t n_ a h).get
def server_host_others_c1_t (w : TWait) (o0 : Int) (o1 : Int) : TT Bool :=
 .ite (w.File == o0) (.ret (w.Client != o1))
 (.ret false)
def server_host_others_c1 := fun w o0 o1 => (server_host_others_c1_t w o0 o1).val
def slices_IndexFunc_Wait_3_s0t (s : List TWait) (t7 : Int) (o0 : Int) (o1 : Int) (v_ : Int) : Tree (Int ⊕ (Int ⊕ Unit)) :=
 .ite (decide (v_ < t7)) (.ite (inR v_ s.length) (.opt (s[v_.toNat]?) fun y_1 =>
   .ite (server_host_others_c1 y_1 o0 o1) (.ret (.inr (.inl v_)))
   (.ret (.inl (wi64 (v_ + 1))))) .fail)
 (.ret (.inr (.inr ())))
def slices_IndexFunc_Wait_3_s0 := fun s t7 o0 o1 v_ => (slices_IndexFunc_Wait_3_s0t s t7 o0 o1 v_).get
def slices_IndexFunc_Wait_3_l0 := fun s t7 o0 o1 t8 => iter (slices_IndexFunc_Wait_3_s0 s t7 o0 o1) n_ t8
def slices_IndexFunc_Wait_3_t (s : List TWait) (o0 : Int) (o1 : Int) : Tree Int :=
 .opt (slices_IndexFunc_Wait_3_l0 n_ s (s.length : Int) o0 o1 0) fun r_1 =>
 altT r_1 (fun a_2 =>
  .ret a_2) fun b_3 =>
 .ret (-1)
def slices_IndexFunc_Wait_3 := fun s o0 o1 => (slices_IndexFunc_Wait_3_t n_ s o0 o1).get
def slices_ContainsFunc_Wait_t (s : List TWait) (o0 : Int) (o1 : Int) : Tree Bool :=
 .opt (slices_IndexFunc_Wait_3 n_ s o0 o1) fun r_1 =>
 .ret (decide (r_1 ≥ 0))
def slices_ContainsFunc_Wait := fun s o0 o1 => (slices_ContainsFunc_Wait_t n_ s o0 o1).get
def server_host_others_t (client : Int) (file : Int) (h : Tserver_host) : Tree (Bool × Tserver_host) :=
 .opt (lease_Clash n_ h.Server.Desk.Leases h.Server.Now client file 2) fun r_1 =>
 .ite (decide ((r_1.length : Int) > 0)) (.ret (true, (Tserver_host.mk h.Server [])))
 (.opt (slices_ContainsFunc_Wait n_ h.Server.Desk.Line file client) fun r_2 =>
 .ret (r_2, (Tserver_host.mk h.Server [])))
def server_host_others := fun client file h => (server_host_others_t n_ client file h).get
def server_host_done_5_t (client : Int) (t : TTell) (h : Tserver_host) : Tree Tserver_host :=
 .ite (decide (client ≥ 1)) (.ite (decide (client ≤ (h.Server.Told.length : Int))) (.ite (inR (wi64 (client - 1)) h.Server.Told.length) (.opt (h.Server.Told[(wi64 (client - 1)).toNat]?) fun y_1 =>
    .ite (decide (y_1.Seq ≤ t.Seq)) (.ite (inR (wi64 (client - 1)) h.Server.Told.length) (.opt (h.Server.Told[(wi64 (client - 1)).toNat]?) fun y_2 =>
      .ret (Tserver_host.mk (TServer.mk h.Server.Store h.Server.Desk h.Server.Seen (h.Server.Told.set (wi64 (client - 1)).toNat (TTell.mk 1 client h.Server.Store.S.Epoch t.Seq t.Err t.File t.Mode t.Ver t.Body)) h.Server.Now h.Server.Hush h.Server.Bad h.Server.Live h.Server.Recalled) [(TTell.mk 1 client h.Server.Store.S.Epoch t.Seq t.Err t.File t.Mode t.Ver t.Body)])) .fail)
    (.ret (Tserver_host.mk h.Server [(TTell.mk 1 client h.Server.Store.S.Epoch t.Seq t.Err t.File t.Mode t.Ver t.Body)]))) .fail)
  (.ret (Tserver_host.mk h.Server [(TTell.mk 1 client h.Server.Store.S.Epoch t.Seq t.Err t.File t.Mode t.Ver t.Body)])))
 (.ret (Tserver_host.mk h.Server [(TTell.mk 1 client h.Server.Store.S.Epoch t.Seq t.Err t.File t.Mode t.Ver t.Body)]))
def server_host_done_5 := fun client t h => (server_host_done_5_t client t h).get
def server_host_says_4_t (a : TAsk) (t : TTell) (h : Tserver_host) : Tree Tserver_host :=
 .opt (server_host_done_5 a.From (TTell.mk t.Kind t.To t.Epoch a.Seq t.Err t.File t.Mode t.Ver t.Body) (Tserver_host.mk h.Server [])) fun r_1 =>
 .ret r_1
def server_host_says_4 := fun a t h => (server_host_says_4_t a t h).get
def state_Gone_c1_t (s : TState) (o3 : Int) : Tree ((TMark × TState) ⊕ Unit) :=
 .opt (state_there o3 s) fun r_1 =>
 altT r_1 (fun a_2 =>
  .opt (s.Files[a_2]?) fun y_3 =>
  .ret (.inl ((TMark.mk 0 0 o3 0), (TState.mk (s.Files.set a_2 (TFile.mk [] 0 [])) s.Marks s.Epoch)))) fun b_4 =>
 .ret (.inr ())
def state_Gone_c1 := fun s o3 => (state_Gone_c1_t s o3).get
def state_work_3_t (s : TState) (client : Int) (seq : Int) (o0 : Int) : Tree (TState × TMark) :=
 .opt (state_Gone_c1 s o0) fun r_1 =>
 altT r_1 (fun a_2 =>
  .opt (mark_Put a_2.2.Marks client (TMark.mk seq a_2.1.Err a_2.1.File a_2.1.Ver)) fun r_3 =>
  .ret ((TState.mk a_2.2.Files r_3 a_2.2.Epoch), (TMark.mk seq a_2.1.Err a_2.1.File a_2.1.Ver))) fun b_4 =>
 .opt (mark_Put s.Marks client (TMark.mk seq 2 0 0)) fun r_5 =>
 .ret ((TState.mk s.Files r_5 s.Epoch), (TMark.mk seq 2 0 0))
def state_work_3 := fun s client seq o0 => (state_work_3_t s client seq o0).get
def state_Gone_t (s : TState) (client : Int) (seq : Int) (n : Int) : Tree (TState × TMark) :=
 .opt (state_work_3 s client seq n) fun r_1 =>
 .ret (r_1.1, r_1.2)
def state_Gone := fun s client seq n => (state_Gone_t s client seq n).get
def server_host_commits_2_t (s : TState) (h : Tserver_host) : Tree ((Tserver_host × List (List UInt8) × List TPut) ⊕ (Tserver_host × List (List UInt8) × List TPut)) :=
 .opt (store_Commit n_ h.Server.Store s) fun r_1 =>
 .ite (!r_1.2) (.ret (.inr ((Tserver_host.mk (TServer.mk r_1.1 h.Server.Desk h.Server.Seen h.Server.Told h.Server.Now h.Server.Hush h.Server.Bad h.Server.Live h.Server.Recalled) []), h.Server.Store.D.Last, h.Server.Store.D.Wait)))
 (.ret (.inl ((Tserver_host.mk (TServer.mk r_1.1 h.Server.Desk h.Server.Seen h.Server.Told h.Server.Now h.Server.Hush h.Server.Bad h.Server.Live h.Server.Recalled) []), h.Server.Store.D.Last, h.Server.Store.D.Wait)))
def server_host_commits_2 := fun s h => (server_host_commits_2_t n_ s h).get
def server_host_done_6_t (client : Int) (t : TTell) (h : Tserver_host) : Tree Tserver_host :=
 .ite (decide (client ≥ 1)) (.ite (decide (client ≤ (h.Server.Told.length : Int))) (.ite (inR (wi64 (client - 1)) h.Server.Told.length) (.opt (h.Server.Told[(wi64 (client - 1)).toNat]?) fun y_1 =>
    .ite (decide (y_1.Seq ≤ t.Seq)) (.ite (inR (wi64 (client - 1)) h.Server.Told.length) (.opt (h.Server.Told[(wi64 (client - 1)).toNat]?) fun y_2 =>
      .ret (Tserver_host.mk (TServer.mk h.Server.Store h.Server.Desk h.Server.Seen (h.Server.Told.set (wi64 (client - 1)).toNat (TTell.mk 1 client h.Server.Store.S.Epoch t.Seq t.Err t.File t.Mode t.Ver t.Body)) h.Server.Now h.Server.Hush h.Server.Bad h.Server.Live h.Server.Recalled) [(TTell.mk 1 client h.Server.Store.S.Epoch t.Seq t.Err t.File t.Mode t.Ver t.Body)])) .fail)
    (.ret (Tserver_host.mk h.Server [(TTell.mk 1 client h.Server.Store.S.Epoch t.Seq t.Err t.File t.Mode t.Ver t.Body)]))) .fail)
  (.ret (Tserver_host.mk h.Server [(TTell.mk 1 client h.Server.Store.S.Epoch t.Seq t.Err t.File t.Mode t.Ver t.Body)])))
 (.ret (Tserver_host.mk h.Server [(TTell.mk 1 client h.Server.Store.S.Epoch t.Seq t.Err t.File t.Mode t.Ver t.Body)]))
def server_host_done_6 := fun client t h => (server_host_done_6_t client t h).get
def server_host_says_5_t (a : TAsk) (t : TTell) (h : Tserver_host) : Tree Tserver_host :=
 .opt (server_host_done_6 a.From (TTell.mk t.Kind t.To t.Epoch a.Seq t.Err t.File t.Mode t.Ver t.Body) (Tserver_host.mk h.Server [])) fun r_1 =>
 .ret r_1
def server_host_says_5 := fun a t h => (server_host_says_5_t a t h).get
def server_host_marked_2_t (a : TAsk) (m : TMark) (h : Tserver_host) : Tree Tserver_host :=
 .opt (server_host_says_5 a (TTell.mk 0 0 0 0 m.Err m.File 0 m.Ver []) (Tserver_host.mk h.Server [])) fun r_1 =>
 .ret r_1
def server_host_marked_2 := fun a m h => (server_host_marked_2_t a m h).get
def server_host_ends_t (a : TAsk) (h : Tserver_host) : Tree (Tserver_host ⊕ ((Tserver_host × List (List UInt8) × List TPut × List TFile × List TMark × List TLease × List TWait) ⊕ (Tserver_host × List (List UInt8) × List TPut × List TFile × List TMark))) :=
 .opt (server_host_others n_ a.From a.File (Tserver_host.mk h.Server [])) fun r_1 =>
 .ite r_1.1 (.opt (server_host_says_4 a (TTell.mk 0 0 0 0 4 0 0 0 []) (Tserver_host.mk r_1.2.Server [])) fun r_2 =>
  .ret (.inl r_2))
 (.opt (state_Gone r_1.2.Server.Store.S a.From a.Seq a.File) fun r_3 =>
 .opt (server_host_commits_2 n_ r_3.1 (Tserver_host.mk r_1.2.Server [])) fun r_4 =>
 altT r_4 (fun a_5 =>
  .opt (desk_Give n_ a_5.1.Server.Desk a.From a.File) fun r_6 =>
  .opt (line_Drop n_ r_6.Line a.From) fun r_7 =>
  .opt (server_host_marked_2 a r_3.2 (Tserver_host.mk (TServer.mk a_5.1.Server.Store (TDesk.mk r_6.Leases r_7) a_5.1.Server.Seen a_5.1.Server.Told a_5.1.Server.Now a_5.1.Server.Hush a_5.1.Server.Bad a_5.1.Server.Live a_5.1.Server.Recalled) [])) fun r_8 =>
  .ret (.inr (.inl (r_8, a_5.2.1, a_5.2.2, r_1.2.Server.Store.S.Files, r_1.2.Server.Store.S.Marks, a_5.1.Server.Desk.Leases, a_5.1.Server.Desk.Line)))) fun b_9 =>
 .ret (.inr (.inr ((Tserver_host.mk b_9.1.Server []), b_9.2.1, b_9.2.2, r_1.2.Server.Store.S.Files, r_1.2.Server.Store.S.Marks))))
def server_host_ends := fun a h => (server_host_ends_t n_ a h).get
def server_host_serves_t (a : TAsk) (h : Tserver_host) : Tree (Tserver_host ⊕ (Tserver_host ⊕ (Tserver_host ⊕ (Tserver_host ⊕ ((Tserver_host × List TLease × List TWait) ⊕ ((Tserver_host × List TLease × List TWait) ⊕ ((Tserver_host × List TLease × List TWait) ⊕ ((Tserver_host × List TLease × List TWait) ⊕ ((Tserver_host × List TLease × List TWait) ⊕ ((Tserver_host × List (List UInt8) × List TPut × List TFile × List TMark) ⊕ ((Tserver_host × List (List UInt8) × List TPut × List TFile × List TMark) ⊕ ((Tserver_host × List (List UInt8) × List TPut × List TFile × List TMark) ⊕ ((Tserver_host × List (List UInt8) × List TPut × List TFile × List TMark) ⊕ ((Tserver_host × List (List UInt8) × List TPut × List TFile × List TMark × List TLease × List TWait) ⊕ (Tserver_host × List (List UInt8) × List TPut × List TFile × List TMark × List TLease × List TWait))))))))))))))) :=
 .ite (decide (h.Server.Now < h.Server.Hush)) (.opt (server_host_says a (TTell.mk 0 0 0 0 7 0 0 0 []) (Tserver_host.mk h.Server [])) fun r_1 =>
  .ret (.inr (.inl r_1)))
 (.ite (a.Kind == 1) (.opt (server_host_opens n_ a (Tserver_host.mk h.Server [])) fun r_2 =>
  altT r_2 (fun a_3 =>
   .ret (.inr (.inr (.inr (.inr (.inr (.inr (.inr (.inr (.inr (.inr (.inr (.inr (.inl (a_3.1, a_3.2.1, a_3.2.2.1, a_3.2.2.2.1, a_3.2.2.2.2))))))))))))))) fun b_4 =>
  .ret (.inr (.inr (.inr (.inr (.inr (.inr (.inr (.inr (.inr (.inr (.inl ((Tserver_host.mk (TServer.mk b_4.1.Server.Store b_4.1.Server.Desk b_4.1.Server.Seen b_4.1.Server.Told b_4.1.Server.Now b_4.1.Server.Hush b_4.1.Server.Bad false b_4.1.Server.Recalled) []), b_4.2.1, b_4.2.2.1, b_4.2.2.2.1, b_4.2.2.2.2)))))))))))))
 (.ite (a.Kind == 2) (.opt (server_host_lends n_ a (Tserver_host.mk h.Server [])) fun r_5 =>
  altT r_5 (fun a_6 =>
   .ret (.inr (.inr (.inr (.inl a_6))))) fun b_7 =>
  altT b_7 (fun a_8 =>
   .ret (.inr (.inr (.inr (.inr (.inl (a_8.1, a_8.2.1, a_8.2.2))))))) fun b_9 =>
  altT b_9 (fun a_10 =>
   .ret (.inr (.inr (.inr (.inr (.inr (.inr (.inr (.inl (a_10.1, a_10.2.1, a_10.2.2)))))))))) fun b_11 =>
  .ret (.inr (.inr (.inr (.inr (.inr (.inr (.inr (.inr (.inl (b_11.1, b_11.2.1, b_11.2.2)))))))))))
 (.ite (a.Kind == 3) (.opt (server_host_flushes n_ a (Tserver_host.mk h.Server [])) fun r_12 =>
  altT r_12 (fun a_13 =>
   .ret (.inr (.inr (.inr (.inl a_13))))) fun b_14 =>
  altT b_14 (fun a_15 =>
   .ret (.inr (.inr (.inr (.inr (.inr (.inr (.inr (.inr (.inr (.inr (.inr (.inr (.inl (a_15.1, a_15.2.1, a_15.2.2.1, a_15.2.2.2.1, a_15.2.2.2.2))))))))))))))) fun b_16 =>
  .ret (.inr (.inr (.inr (.inr (.inr (.inr (.inr (.inr (.inr (.inr (.inl ((Tserver_host.mk (TServer.mk b_16.1.Server.Store b_16.1.Server.Desk b_16.1.Server.Seen b_16.1.Server.Told b_16.1.Server.Now b_16.1.Server.Hush b_16.1.Server.Bad false b_16.1.Server.Recalled) []), b_16.2.1, b_16.2.2.1, b_16.2.2.2.1, b_16.2.2.2.2)))))))))))))
 (.ite (a.Kind == 4) (.opt (server_host_takesBack n_ a (Tserver_host.mk h.Server [])) fun r_17 =>
  altT r_17 (fun a_18 =>
   .ret (.inr (.inr (.inr (.inr (.inr (.inl (a_18.1, a_18.2.1, a_18.2.2)))))))) fun b_19 =>
  altT b_19 (fun a_20 =>
   .ret (.inr (.inr (.inr (.inr (.inr (.inr (.inl (a_20.1, a_20.2.1, a_20.2.2))))))))) fun b_21 =>
  altT b_21 (fun a_22 =>
   .ret (.inr (.inr (.inr (.inr (.inr (.inr (.inr (.inr (.inr (.inr (.inr (.inr (.inr (.inr (a_22.1, a_22.2.1, a_22.2.2.1, a_22.2.2.2.1, a_22.2.2.2.2.1, a_22.2.2.2.2.2.1, a_22.2.2.2.2.2.2)))))))))))))))) fun b_23 =>
  .ret (.inr (.inr (.inr (.inr (.inr (.inr (.inr (.inr (.inr (.inr (.inr (.inl ((Tserver_host.mk (TServer.mk b_23.1.Server.Store b_23.1.Server.Desk b_23.1.Server.Seen b_23.1.Server.Told b_23.1.Server.Now b_23.1.Server.Hush b_23.1.Server.Bad false b_23.1.Server.Recalled) []), b_23.2.1, b_23.2.2.1, b_23.2.2.2.1, b_23.2.2.2.2))))))))))))))
 (.ite (a.Kind == 5) (.opt (server_host_ends n_ a (Tserver_host.mk h.Server [])) fun r_24 =>
  altT r_24 (fun a_25 =>
   .ret (.inr (.inr (.inl a_25)))) fun b_26 =>
  altT b_26 (fun a_27 =>
   .ret (.inr (.inr (.inr (.inr (.inr (.inr (.inr (.inr (.inr (.inr (.inr (.inr (.inr (.inl (a_27.1, a_27.2.1, a_27.2.2.1, a_27.2.2.2.1, a_27.2.2.2.2.1, a_27.2.2.2.2.2.1, a_27.2.2.2.2.2.2)))))))))))))))) fun b_28 =>
  .ret (.inr (.inr (.inr (.inr (.inr (.inr (.inr (.inr (.inr (.inl ((Tserver_host.mk (TServer.mk b_28.1.Server.Store b_28.1.Server.Desk b_28.1.Server.Seen b_28.1.Server.Told b_28.1.Server.Now b_28.1.Server.Hush b_28.1.Server.Bad false b_28.1.Server.Recalled) []), b_28.2.1, b_28.2.2.1, b_28.2.2.2.1, b_28.2.2.2.2))))))))))))
 (.ret (.inl (Tserver_host.mk h.Server []))))))))
def server_host_serves := fun a h => (server_host_serves_t n_ a h).get
def server_Comes_t (s : TServer) (b : List UInt8) : Tree (TServer × List TTell) :=
 .ite (!s.Live) (.ret ((server_of s).Server, []))
 (.opt (msg_TakeAsk n_ b) fun r_1 =>
 .ite (!r_1.2) (.ret ((TServer.mk (server_of s).Server.Store (server_of s).Server.Desk (server_of s).Server.Seen (server_of s).Server.Told (server_of s).Server.Now (server_of s).Server.Hush (imin (wi64 ((server_of s).Server.Bad + 1)) 1073741824) (server_of s).Server.Live (server_of s).Server.Recalled), []))
 (.opt (sess_Judge s.Store.S.Epoch s.Seen s.Told s.Store.S.Marks r_1.1) fun r_2 =>
 .ite (r_2.1 == 1) (.ret ((server_of s).Server, [(TTell.mk 3 r_1.1.From s.Store.S.Epoch 0 0 0 0 0 [])]))
 (.ite (r_2.1 == 3) (.ret ((server_of s).Server, [r_2.2]))
 (.ite (r_2.1 == 4) (.ite (inR (wi64 (r_1.1.From - 1)) (server_of s).Server.Seen.length) (.opt ((server_of s).Server.Seen[(wi64 (r_1.1.From - 1)).toNat]?) fun y_3 =>
   .opt (server_host_serves n_ r_1.1 (Tserver_host.mk (TServer.mk (server_of s).Server.Store (server_of s).Server.Desk ((server_of s).Server.Seen.set (wi64 (r_1.1.From - 1)).toNat r_1.1.Seq) (server_of s).Server.Told (server_of s).Server.Now (server_of s).Server.Hush (server_of s).Server.Bad (server_of s).Server.Live (server_of s).Server.Recalled) [])) fun r_4 =>
   altT r_4 (fun a_5 =>
    .ret (a_5.Server, [])) fun b_6 =>
   altT b_6 (fun a_7 =>
    .ret (a_7.Server, a_7.told)) fun b_8 =>
   altT b_8 (fun a_9 =>
    .ret (a_9.Server, a_9.told)) fun b_10 =>
   altT b_10 (fun a_11 =>
    .ret (a_11.Server, a_11.told)) fun b_12 =>
   altT b_12 (fun a_13 =>
    .ret (a_13.1.Server, a_13.1.told)) fun b_14 =>
   altT b_14 (fun a_15 =>
    .ret (a_15.1.Server, a_15.1.told)) fun b_16 =>
   altT b_16 (fun a_17 =>
    .ret (a_17.1.Server, a_17.1.told)) fun b_18 =>
   altT b_18 (fun a_19 =>
    .ret (a_19.1.Server, a_19.1.told)) fun b_20 =>
   altT b_20 (fun a_21 =>
    .ret (a_21.1.Server, a_21.1.told)) fun b_22 =>
   altT b_22 (fun a_23 =>
    .ret (a_23.1.Server, [])) fun b_24 =>
   altT b_24 (fun a_25 =>
    .ret (a_25.1.Server, [])) fun b_26 =>
   altT b_26 (fun a_27 =>
    .ret (a_27.1.Server, [])) fun b_28 =>
   altT b_28 (fun a_29 =>
    .ret (a_29.1.Server, a_29.1.told)) fun b_30 =>
   altT b_30 (fun a_31 =>
    .ret (a_31.1.Server, a_31.1.told)) fun b_32 =>
   .ret (b_32.1.Server, b_32.1.told)) .fail)
 (.ret ((server_of s).Server, []))))))
def server_Comes := fun s b => (server_Comes_t n_ s b).get
def jrnl_writer_read_t (i : Int) (w : Tjrnl_writer) : Tree ((List UInt8 × Tjrnl_writer × List (List UInt8) × List TPut) ⊕ (Tjrnl_writer × List (List UInt8) × List TPut)) :=
 .opt (jrnl_writer_does w.d (disk_Read w.d i).2 w) fun r_1 =>
 altT r_1 (fun a_2 =>
  .ret (.inl ((disk_Read w.d i).1, a_2, w.d.Last, w.d.Wait))) fun b_3 =>
 .ret (.inr (b_3, w.d.Last, w.d.Wait))
def jrnl_writer_read := fun i w => (jrnl_writer_read_t i w).get
def strings_trimRightByte_s0t (c : UInt8) (v_ : List UInt8) : Tree ((List UInt8) ⊕ (List UInt8)) :=
 .ite (decide ((v_.length : Int) > 0)) (.ite (inR (wi64 ((v_.length : Int) - 1)) v_.length) (.opt (v_[(wi64 ((v_.length : Int) - 1)).toNat]?) fun y_1 =>
   .ite ((i8 y_1) == (i8 c)) (.ite (cutOk 0 (wi64 ((v_.length : Int) - 1)) v_.length) (.ret (.inl (cutL v_ 0 (wi64 ((v_.length : Int) - 1))))) .fail)
   (.ret (.inr v_))) .fail)
 (.ret (.inr v_))
def strings_trimRightByte_s0 := fun c v_ => (strings_trimRightByte_s0t c v_).get
def strings_trimRightByte_l0 := fun c s => iter (strings_trimRightByte_s0 c) n_ s
def strings_trimRightByte_t (s : List UInt8) (c : UInt8) : Tree (List UInt8) :=
 .opt (strings_trimRightByte_l0 n_ c s) fun r_1 =>
 .ret r_1
def strings_trimRightByte := fun s c => (strings_trimRightByte_t n_ s c).get
def strings_trimLeftByte_s0t (c : UInt8) (v_ : List UInt8) : Tree ((List UInt8) ⊕ (List UInt8)) :=
 .ite (decide ((v_.length : Int) > 0)) (.ite (inR 0 v_.length) (.opt (v_[0]?) fun y_1 =>
   .ite ((i8 y_1) == (i8 c)) (.ite (cutOk 1 (v_.length : Int) v_.length) (.ret (.inl (cutL v_ 1 (v_.length : Int)))) .fail)
   (.ret (.inr v_))) .fail)
 (.ret (.inr v_))
def strings_trimLeftByte_s0 := fun c v_ => (strings_trimLeftByte_s0t c v_).get
def strings_trimLeftByte_l0 := fun c s => iter (strings_trimLeftByte_s0 c) n_ s
def strings_trimLeftByte_t (s : List UInt8) (c : UInt8) : Tree (List UInt8) :=
 .opt (strings_trimLeftByte_l0 n_ c s) fun r_1 =>
 .ret r_1
def strings_trimLeftByte := fun s c => (strings_trimLeftByte_t n_ s c).get
def strings_Trim_t (s : List UInt8) : Tree (List UInt8) :=
 .ite (s == []) (.ret s)
 (.opt (strings_trimRightByte n_ s 0) fun r_1 =>
 .opt (strings_trimLeftByte n_ r_1 0) fun r_2 =>
 .ret r_2)
def strings_Trim := fun s => (strings_Trim_t n_ s).get
def jrnl_named_s0t (home : Int) (s : List UInt8) (n : Int) (t44 : Int) (o0 : TDisk) (r1 : List UInt8) (v_ : Int × Int × List Int) : Tree ((Int × Int × List Int) ⊕ ((List Int) ⊕ (List Int))) :=
 .ite (decide (v_.2.1 < t44)) (.ite (inR v_.2.1 r1.length) (.opt (r1[v_.2.1.toNat]?) fun y_1 =>
   .ite (decide ((wi64 (i8 y_1)) ≤ v_.1)) (.ret (.inr (.inl v_.2.2)))
   (.ite (decide ((wi64 (i8 y_1)) ≥ home)) (.ret (.inr (.inl v_.2.2)))
   (.ite (decide ((v_.2.2.length + 1) ≤ lim)) (.ret (.inl ((wi64 (i8 y_1)), (wi64 (v_.2.1 + 1)), (v_.2.2 ++ [(wi64 (i8 y_1))])))) .fail))) .fail)
 (.ret (.inr (.inr v_.2.2)))
def jrnl_named_s0 := fun home s n t44 o0 r1 v_ => (jrnl_named_s0t home s n t44 o0 r1 v_).get
def jrnl_named_l0 := fun home s n t44 o0 r1 last t45 l => iter (jrnl_named_s0 home s n t44 o0 r1) n_ (last, t45, l)
def jrnl_named_t (d : TDisk) (home : Int) (s : List UInt8) : Tree (List Int × Bool) :=
 .ite (inR 0 s.length) (.opt (s[0]?) fun y_1 =>
  .ite ((i8 y_1) != 1) (.ret ([], false))
  (.ite (inR 31 s.length) (.opt (s[31]?) fun y_2 =>
   .ite ((i8 y_2) != 1) (.ret ([], false))
   (.ite (inR 1 s.length) (.opt (s[1]?) fun y_3 =>
    .ite (decide ((wi64 (i8 y_3)) < 1)) (.ret ([], false))
    (.ite (decide ((wi64 (i8 y_3)) > 16)) (.ret ([], false))
    (.ite (decide ((wi64 (home + (wi64 (i8 y_3)))) ≥ (d.Last.length : Int))) (.ret ([], false))
    (.ite (cutOk 2 (wi64 (2 + (wi64 (i8 y_3)))) s.length) (.opt (jrnl_named_l0 n_ home s (wi64 (i8 y_3)) ((cutL s 2 (wi64 (2 + (wi64 (i8 y_3))))).length : Int) d (cutL s 2 (wi64 (2 + (wi64 (i8 y_3))))) (-1) 0 []) fun r_4 =>
     altT r_4 (fun a_5 =>
      .ret ([], false)) fun b_6 =>
     .ite (cutOk (wi64 (2 + (wi64 (i8 y_3)))) 31 s.length) (.opt (strings_Trim n_ (cutL s (wi64 (2 + (wi64 (i8 y_3)))) 31)) fun r_7 =>
      .ret (b_6, (r_7 == []))) .fail) .fail)))) .fail)) .fail)) .fail
def jrnl_named := fun d home s => (jrnl_named_t n_ d home s).get
def jrnl_writer_read_2_t (i : Int) (w : Tjrnl_writer) : Tree ((List UInt8 × Tjrnl_writer) ⊕ Tjrnl_writer) :=
 .opt (jrnl_writer_does_2 w.d (disk_Read w.d i).2 w) fun r_1 =>
 altT r_1 (fun a_2 =>
  .ret (.inl ((disk_Read w.d i).1, a_2))) fun b_3 =>
 .ret (.inr b_3)
def jrnl_writer_read_2 := fun i w => (jrnl_writer_read_2_t i w).get
def jrnl_Mend_s0t (home : Int) (t53 : List Int) (t54 : Int) (o0 : TDisk) (ok : Bool) (r4 : List (List UInt8)) (r5 : List TPut) (v_ : Int × TDisk × Tjrnl_writer) : Tree ((Int × TDisk × Tjrnl_writer) ⊕ ((TDisk × Tjrnl_writer) ⊕ (TDisk × Tjrnl_writer))) :=
 .ite (decide (v_.1 < t54)) (.ite (inR v_.1 t53.length) (.opt (t53[v_.1.toNat]?) fun y_1 =>
   .opt (jrnl_writer_read_2 (wi64 ((wi64 (home + 1)) + v_.1)) v_.2.2) fun r_2 =>
   altT r_2 (fun a_3 =>
    .opt (jrnl_writer_write_2 y_1 a_3.1 a_3.2) fun r_4 =>
    altT r_4 (fun a_5 =>
     .ret (.inl ((wi64 (v_.1 + 1)), (TDisk.mk [] [] v_.2.1.Arm v_.2.1.Down), a_5))) fun b_6 =>
    .ret (.inr (.inl ((TDisk.mk [] [] v_.2.1.Arm v_.2.1.Down), b_6)))) fun b_7 =>
   .ret (.inr (.inl ((TDisk.mk [] [] v_.2.1.Arm v_.2.1.Down), b_7)))) .fail)
 (.ret (.inr (.inr ((TDisk.mk [] [] v_.2.1.Arm v_.2.1.Down), v_.2.2))))
def jrnl_Mend_s0 := fun home t53 t54 o0 ok r4 r5 v_ => (jrnl_Mend_s0t home t53 t54 o0 ok r4 r5 v_).get
def jrnl_Mend_l0 := fun home t53 t54 o0 ok r4 r5 t55 x w => iter (jrnl_Mend_s0 home t53 t54 o0 ok r4 r5) n_ (t55, x, w)
def jrnl_Mend_t (d : TDisk) (home : Int) : Tree (TDisk × Bool) :=
 .opt (jrnl_writer_read home (Tjrnl_writer.mk d)) fun r_1 =>
 altT r_1 (fun a_2 =>
  .ite ((a_2.1.length : Int) != 32) (.ret (a_2.2.1.d, false))
  (.opt (jrnl_named n_ d home a_2.1) fun r_3 =>
  .ite (!r_3.2) (.ret (a_2.2.1.d, false))
  (.opt (jrnl_Mend_l0 n_ home r_3.1 (r_3.1.length : Int) d false a_2.2.2.1 a_2.2.2.2 0 (TDisk.mk [] [] 0 false) a_2.2.1) fun r_4 =>
  altT r_4 (fun a_5 =>
   .ret (a_5.2.d, false)) fun b_6 =>
  .opt (jrnl_writer_flush n_ b_6.2) fun r_7 =>
  altT r_7 (fun a_8 =>
   .ret (a_8.d, true)) fun b_9 =>
  .ret (b_9.d, false)))) fun b_10 =>
 .ret (b_10.1.d, false)
def jrnl_Mend := fun d home => (jrnl_Mend_t n_ d home).get
def store_sectors_s0t (t6 : Int) (d : TDisk) (v_ : Int × List (List UInt8)) : Tree ((Int × List (List UInt8)) ⊕ ((List (List UInt8)) ⊕ (List (List UInt8)))) :=
 .ite (decide (v_.1 < t6)) (.ite (!(disk_Read d v_.1).2) (.ret (.inr (.inl v_.2)))
  (.ite (decide ((v_.2.length + 1) ≤ lim)) (.ret (.inl ((wi64 (v_.1 + 1)), (v_.2 ++ [(disk_Read d v_.1).1])))) .fail))
 (.ret (.inr (.inr v_.2)))
def store_sectors_s0 := fun t6 d v_ => (store_sectors_s0t t6 d v_).get
def store_sectors_l0 := fun t6 d t7 l => iter (store_sectors_s0 t6 d) n_ (t7, l)
def store_sectors_t (d : TDisk) : Tree ((List (List UInt8)) ⊕ Unit) :=
 .opt (store_home n_) fun r_1 =>
 .opt (store_sectors_l0 n_ r_1 d 0 []) fun r_2 =>
 altT r_2 (fun a_3 =>
  .ret (.inr ())) fun b_4 =>
 .ret (.inl b_4)
def store_sectors := fun d => (store_sectors_t n_ d).get
def image_reader_num_t (n : Int) (r : Timage_reader) : Tree ((Int × Timage_reader × List UInt8) ⊕ Unit) :=
 .opt (bits_Take n_ r.b n) fun r_1 =>
 .ite (!r_1.2) (.ret (.inr ()))
 (.ite (cutOk n (r.b.length : Int) r.b.length) (.ret (.inl (r_1.1, (Timage_reader.mk (cutL r.b n (r.b.length : Int))), r.b))) .fail)
def image_reader_num := fun n r => (image_reader_num_t n_ n r).get
def image_reader_num_2_t (n : Int) (r : Timage_reader) : Tree ((Int × Timage_reader) ⊕ Unit) :=
 .opt (bits_Take n_ r.b n) fun r_1 =>
 .ite (!r_1.2) (.ret (.inr ()))
 (.ite (cutOk n (r.b.length : Int) r.b.length) (.ret (.inl (r_1.1, (Timage_reader.mk (cutL r.b n (r.b.length : Int)))))) .fail)
def image_reader_num_2 := fun n r => (image_reader_num_2_t n_ n r).get
def image_reader_text_t (n : Int) (r : Timage_reader) : Tree ((List UInt8 × Timage_reader) ⊕ Unit) :=
 .opt (bits_TakeText r.b) fun r_1 =>
 .ite (!r_1.2.2) (.ret (.inr ()))
 (.ite (decide (r_1.2.1 > n)) (.ret (.inr ()))
 (.ite (decide ((r.b.length : Int) < n)) (.ret (.inr ()))
 (.ite (cutOk n (r.b.length : Int) r.b.length) (.ret (.inl (r_1.1, (Timage_reader.mk (cutL r.b n (r.b.length : Int)))))) .fail)))
def image_reader_text := fun n r => (image_reader_text_t n r).get
def image_reader_read_s0t (r1 : List UInt8) (v_ : Int × Timage_reader × TState) : Tree ((Int × Timage_reader × TState) ⊕ ((Timage_reader × TState) ⊕ (Timage_reader × TState))) :=
 .ite (decide (v_.1 < 3)) (.opt (image_reader_num_2 n_ 4 v_.2.1) fun r_1 =>
  altT r_1 (fun a_2 =>
   .opt (image_reader_num_2 n_ 1 a_2.2) fun r_3 =>
   altT r_3 (fun a_4 =>
    .opt (image_reader_num_2 n_ 1 a_4.2) fun r_5 =>
    altT r_5 (fun a_6 =>
     .opt (image_reader_num_2 n_ 4 a_6.2) fun r_7 =>
     altT r_7 (fun a_8 =>
      .ite (decide ((v_.2.2.Marks.length + 1) ≤ lim)) (.ret (.inl ((wi64 (v_.1 + 1)), a_8.2, (TState.mk [] (v_.2.2.Marks ++ [(TMark.mk a_2.1 a_4.1 a_6.1 a_8.1)]) v_.2.2.Epoch)))) .fail) fun b_9 =>
     .ret (.inr (.inl (a_6.2, (TState.mk [] v_.2.2.Marks v_.2.2.Epoch))))) fun b_10 =>
    .ret (.inr (.inl (a_4.2, (TState.mk [] v_.2.2.Marks v_.2.2.Epoch))))) fun b_11 =>
   .ret (.inr (.inl (a_2.2, (TState.mk [] v_.2.2.Marks v_.2.2.Epoch))))) fun b_12 =>
  .ret (.inr (.inl (v_.2.1, (TState.mk [] v_.2.2.Marks v_.2.2.Epoch)))))
 (.ret (.inr (.inr (v_.2.1, (TState.mk [] v_.2.2.Marks v_.2.2.Epoch)))))
def image_reader_read_s0 := fun r1 v_ => (image_reader_read_s0t n_ r1 v_).get
def image_reader_read_l0 := fun r1 t7 r s => iter (image_reader_read_s0 n_ r1) n_ (t7, r, s)
def image_reader_read_s1t (r1 : List UInt8) (v_ : Int × Timage_reader × TState) : Tree ((Int × Timage_reader × TState) ⊕ ((Timage_reader × TState) ⊕ ((Timage_reader × TState × TFile) ⊕ (Timage_reader × TState)))) :=
 .ite (decide (v_.1 < 6)) (.opt (image_reader_text 9 v_.2.1) fun r_1 =>
  altT r_1 (fun a_2 =>
   .opt (image_reader_num_2 n_ 4 a_2.2) fun r_3 =>
   altT r_3 (fun a_4 =>
    .opt (image_reader_text 25 a_4.2) fun r_5 =>
    altT r_5 (fun a_6 =>
     .ite (decide ((v_.2.2.Files.length + 1) ≤ lim)) (.ret (.inl ((wi64 (v_.1 + 1)), a_6.2, (TState.mk (v_.2.2.Files ++ [(TFile.mk a_2.1 a_4.1 a_6.1)]) v_.2.2.Marks v_.2.2.Epoch)))) .fail) fun b_7 =>
    .ret (.inr (.inr (.inl (a_4.2, v_.2.2, (TFile.mk a_2.1 a_4.1 [])))))) fun b_8 =>
   .ret (.inr (.inl (a_2.2, v_.2.2)))) fun b_9 =>
  .ret (.inr (.inl (v_.2.1, v_.2.2))))
 (.ret (.inr (.inr (.inr (v_.2.1, v_.2.2)))))
def image_reader_read_s1 := fun r1 v_ => (image_reader_read_s1t n_ r1 v_).get
def image_reader_read_l1 := fun r1 t24 r s => iter (image_reader_read_s1 n_ r1) n_ (t24, r, s)
def image_reader_read_t (r : Timage_reader) : Tree ((TState × Timage_reader × List UInt8) ⊕ (Unit ⊕ (Timage_reader × List UInt8))) :=
 .opt (image_reader_num n_ 4 r) fun r_1 =>
 altT r_1 (fun a_2 =>
  .opt (image_reader_read_l0 n_ a_2.2.2 0 a_2.2.1 (TState.mk [] [] a_2.1)) fun r_3 =>
  altT r_3 (fun a_4 =>
   .ret (.inr (.inr (a_4.1, a_2.2.2)))) fun b_5 =>
  .opt (image_reader_read_l1 n_ a_2.2.2 0 b_5.1 (TState.mk [] b_5.2.Marks b_5.2.Epoch)) fun r_6 =>
  altT r_6 (fun a_7 =>
   .ret (.inr (.inr (a_7.1, a_2.2.2)))) fun b_8 =>
  altT b_8 (fun a_9 =>
   .ret (.inr (.inr (a_9.1, a_2.2.2)))) fun b_10 =>
  .ret (.inl (b_10.2, b_10.1, a_2.2.2))) fun b_11 =>
 .ret (.inr (.inl ()))
def image_reader_read := fun r => (image_reader_read_t n_ r).get
def slices_Equal_string_s0t (s1 : List (List UInt8)) (s2 : List (List UInt8)) (t12 : Int) (v_ : Int) : Tree (Int ⊕ (Unit ⊕ Unit)) :=
 .ite (decide (v_ < t12)) (.ite (inR v_ s1.length) (.opt (s1[v_.toNat]?) fun y_1 =>
   .ite (inR v_ s2.length) (.opt (s2[v_.toNat]?) fun y_2 =>
    .ite (!(y_1 == y_2)) (.ret (.inr (.inl ())))
    (.ret (.inl (wi64 (v_ + 1))))) .fail) .fail)
 (.ret (.inr (.inr ())))
def slices_Equal_string_s0 := fun s1 s2 t12 v_ => (slices_Equal_string_s0t s1 s2 t12 v_).get
def slices_Equal_string_l0 := fun s1 s2 t12 t13 => iter (slices_Equal_string_s0 s1 s2 t12) n_ t13
def slices_Equal_string_t (s1 : List (List UInt8)) (s2 : List (List UInt8)) : Tree Bool :=
 .ite ((s1.length : Int) != (s2.length : Int)) (.ret false)
 (.opt (slices_Equal_string_l0 n_ s1 s2 (s1.length : Int) 0) fun r_1 =>
 altT r_1 (fun a_2 =>
  .ret false) fun b_3 =>
 .ret true)
def slices_Equal_string := fun s1 s2 => (slices_Equal_string_t n_ s1 s2).get
def image_Take_t (l : List (List UInt8)) : Tree (TState × Bool) :=
 .ite (joinOk l []) (.opt (image_reader_read n_ (Timage_reader.mk (joinL l []))) fun r_1 =>
  altT r_1 (fun a_2 =>
   .opt (state_May n_ a_2.1) fun r_3 =>
   .ite (!r_3) (.ret ((TState.mk [] [] 0), false))
   (.opt (image_Put n_ a_2.1) fun r_4 =>
   .opt (slices_Equal_string n_ r_4 l) fun r_5 =>
   .ite (!r_5) (.ret ((TState.mk [] [] 0), false))
   (.ret (a_2.1, true)))) fun b_6 =>
  altT b_6 (fun a_7 =>
   .ret ((TState.mk [] [] 0), false)) fun b_8 =>
  .ret ((TState.mk [] [] 0), false)) .fail
def image_Take := fun l => (image_Take_t n_ l).get
def store_Open_t (d : TDisk) : Tree (TStore × Bool) :=
 .opt (store_size n_) fun r_1 =>
 .ite ((d.Last.length : Int) != r_1) (.ret ((TStore.mk (TDisk.mk [] [] 0 false) (TState.mk [] [] 0)), false))
 (.ite d.Down (.ret ((TStore.mk (TDisk.mk [] [] 0 false) (TState.mk [] [] 0)), false))
 (.opt (store_home n_) fun r_2 =>
 .opt (jrnl_Mend n_ d r_2) fun r_3 =>
 .opt (store_sectors n_ r_3.1) fun r_4 =>
 altT r_4 (fun a_5 =>
  .opt (image_Take n_ a_5) fun r_6 =>
  .ite (!r_6.2) (.ret ((TStore.mk (TDisk.mk [] [] 0 false) (TState.mk [] [] 0)), false))
  (.ret ((TStore.mk r_3.1 r_6.1), true))) fun b_7 =>
 .ret ((TStore.mk (TDisk.mk [] [] 0 false) (TState.mk [] [] 0)), false)))
def store_Open := fun d => (store_Open_t n_ d).get
def state_Boot (s : TState) : TState := (TState.mk s.Files s.Marks (imin (wi64 (s.Epoch + 1)) 1073741824))
def clock_within_t (v : Int) (most : Int) : Tree (Unit ⊕ Unit) :=
 .ite (decide (v < 0)) (.ret (.inr ()))
 (.ite (decide (v > most)) (.ret (.inr ()))
 (.ret (.inl ())))
def clock_within := fun v most => (clock_within_t v most).get
def clock_Long_t (term : Int) (eps : Int) : Tree Int :=
 .opt (clock_within term 1099511627776) fun r_1 =>
 altT r_1 (fun a_2 =>
  .opt (clock_within eps 500) fun r_3 =>
  altT r_3 (fun a_4 =>
   .ite ((wi64 (1000 - eps)) == 0) .fail
   (.ret (wi64 ((wi64 ((wi64 ((wi64 ((wi64 (term * (wi64 (1000 + eps)))) + 1000)) - eps)) - 1)).tdiv (wi64 (1000 - eps)))))) fun b_5 =>
  .ret 0) fun b_6 =>
 .ret 0
def clock_Long := fun term eps => (clock_Long_t term eps).get
def server_Boot_t (d : TDisk) (now : Int) : Tree (TServer × Bool) :=
 .opt (store_Open n_ d) fun r_1 =>
 .ite (!r_1.2) (.ret ((TServer.mk (TStore.mk (TDisk.mk [] [] 0 false) (TState.mk [] [] 0)) (TDesk.mk [] []) [] [] 0 0 0 false 0), false))
 (.opt (store_Commit n_ r_1.1 (state_Boot r_1.1.S)) fun r_2 =>
 .ite (!r_2.2) (.ret ((TServer.mk (TStore.mk (TDisk.mk [] [] 0 false) (TState.mk [] [] 0)) (TDesk.mk [] []) [] [] 0 0 0 false 0), false))
 (.opt (server_fresh n_ r_2.1 now) fun r_3 =>
 .opt (clock_Long 60 100) fun r_4 =>
 .ret ((TServer.mk r_3.Store r_3.Desk r_3.Seen r_3.Told r_3.Now (clock_Add now r_4) r_3.Bad r_3.Live r_3.Recalled), true)))
def server_Boot := fun d now => (server_Boot_t n_ d now).get
def slices_Equal_Put_s0t (s1 : List TPut) (s2 : List TPut) (t12 : Int) (v_ : Int) : Tree (Int ⊕ (Unit ⊕ Unit)) :=
 .ite (decide (v_ < t12)) (.ite (inR v_ s1.length) (.opt (s1[v_.toNat]?) fun y_1 =>
   .ite (inR v_ s2.length) (.opt (s2[v_.toNat]?) fun y_2 =>
    .ite (!(TPut.eqb y_1 y_2)) (.ret (.inr (.inl ())))
    (.ret (.inl (wi64 (v_ + 1))))) .fail) .fail)
 (.ret (.inr (.inr ())))
def slices_Equal_Put_s0 := fun s1 s2 t12 v_ => (slices_Equal_Put_s0t s1 s2 t12 v_).get
def slices_Equal_Put_l0 := fun s1 s2 t12 t13 => iter (slices_Equal_Put_s0 s1 s2 t12) n_ t13
def slices_Equal_Put_t (s1 : List TPut) (s2 : List TPut) : Tree Bool :=
 .ite ((s1.length : Int) != (s2.length : Int)) (.ret false)
 (.opt (slices_Equal_Put_l0 n_ s1 s2 (s1.length : Int) 0) fun r_1 =>
 altT r_1 (fun a_2 =>
  .ret false) fun b_3 =>
 .ret true)
def slices_Equal_Put := fun s1 s2 => (slices_Equal_Put_t n_ s1 s2).get
def server_disks_t (a : TDisk) (b : TDisk) : Tree Bool :=
 .opt (slices_Equal_string n_ a.Last b.Last) fun r_1 =>
 .ite r_1 (.opt (slices_Equal_Put n_ a.Wait b.Wait) fun r_2 =>
  .ite r_2 (.ite (a.Arm == b.Arm) (.ret (a.Down == b.Down))
   (.ret false))
  (.ret false))
 (.ret false)
def server_disks := fun a b => (server_disks_t n_ a b).get
def slices_Equal_File_s0t (s1 : List TFile) (s2 : List TFile) (t12 : Int) (v_ : Int) : Tree (Int ⊕ (Unit ⊕ Unit)) :=
 .ite (decide (v_ < t12)) (.ite (inR v_ s1.length) (.opt (s1[v_.toNat]?) fun y_1 =>
   .ite (inR v_ s2.length) (.opt (s2[v_.toNat]?) fun y_2 =>
    .ite (!(TFile.eqb y_1 y_2)) (.ret (.inr (.inl ())))
    (.ret (.inl (wi64 (v_ + 1))))) .fail) .fail)
 (.ret (.inr (.inr ())))
def slices_Equal_File_s0 := fun s1 s2 t12 v_ => (slices_Equal_File_s0t s1 s2 t12 v_).get
def slices_Equal_File_l0 := fun s1 s2 t12 t13 => iter (slices_Equal_File_s0 s1 s2 t12) n_ t13
def slices_Equal_File_t (s1 : List TFile) (s2 : List TFile) : Tree Bool :=
 .ite ((s1.length : Int) != (s2.length : Int)) (.ret false)
 (.opt (slices_Equal_File_l0 n_ s1 s2 (s1.length : Int) 0) fun r_1 =>
 altT r_1 (fun a_2 =>
  .ret false) fun b_3 =>
 .ret true)
def slices_Equal_File := fun s1 s2 => (slices_Equal_File_t n_ s1 s2).get
def slices_Equal_Mark_s0t (s1 : List TMark) (s2 : List TMark) (t12 : Int) (v_ : Int) : Tree (Int ⊕ (Unit ⊕ Unit)) :=
 .ite (decide (v_ < t12)) (.ite (inR v_ s1.length) (.opt (s1[v_.toNat]?) fun y_1 =>
   .ite (inR v_ s2.length) (.opt (s2[v_.toNat]?) fun y_2 =>
    .ite (!(TMark.eqb y_1 y_2)) (.ret (.inr (.inl ())))
    (.ret (.inl (wi64 (v_ + 1))))) .fail) .fail)
 (.ret (.inr (.inr ())))
def slices_Equal_Mark_s0 := fun s1 s2 t12 v_ => (slices_Equal_Mark_s0t s1 s2 t12 v_).get
def slices_Equal_Mark_l0 := fun s1 s2 t12 t13 => iter (slices_Equal_Mark_s0 s1 s2 t12) n_ t13
def slices_Equal_Mark_t (s1 : List TMark) (s2 : List TMark) : Tree Bool :=
 .ite ((s1.length : Int) != (s2.length : Int)) (.ret false)
 (.opt (slices_Equal_Mark_l0 n_ s1 s2 (s1.length : Int) 0) fun r_1 =>
 altT r_1 (fun a_2 =>
  .ret false) fun b_3 =>
 .ret true)
def slices_Equal_Mark := fun s1 s2 => (slices_Equal_Mark_t n_ s1 s2).get
def state_Same_t (a : TState) (b : TState) : Tree Bool :=
 .opt (slices_Equal_File n_ a.Files b.Files) fun r_1 =>
 .ite r_1 (.opt (slices_Equal_Mark n_ a.Marks b.Marks) fun r_2 =>
  .ite r_2 (.ret (a.Epoch == b.Epoch))
  (.ret false))
 (.ret false)
def state_Same := fun a b => (state_Same_t n_ a b).get
def slices_Equal_Lease_s0t (s1 : List TLease) (s2 : List TLease) (t12 : Int) (v_ : Int) : Tree (Int ⊕ (Unit ⊕ Unit)) :=
 .ite (decide (v_ < t12)) (.ite (inR v_ s1.length) (.opt (s1[v_.toNat]?) fun y_1 =>
   .ite (inR v_ s2.length) (.opt (s2[v_.toNat]?) fun y_2 =>
    .ite (!(TLease.eqb y_1 y_2)) (.ret (.inr (.inl ())))
    (.ret (.inl (wi64 (v_ + 1))))) .fail) .fail)
 (.ret (.inr (.inr ())))
def slices_Equal_Lease_s0 := fun s1 s2 t12 v_ => (slices_Equal_Lease_s0t s1 s2 t12 v_).get
def slices_Equal_Lease_l0 := fun s1 s2 t12 t13 => iter (slices_Equal_Lease_s0 s1 s2 t12) n_ t13
def slices_Equal_Lease_t (s1 : List TLease) (s2 : List TLease) : Tree Bool :=
 .ite ((s1.length : Int) != (s2.length : Int)) (.ret false)
 (.opt (slices_Equal_Lease_l0 n_ s1 s2 (s1.length : Int) 0) fun r_1 =>
 altT r_1 (fun a_2 =>
  .ret false) fun b_3 =>
 .ret true)
def slices_Equal_Lease := fun s1 s2 => (slices_Equal_Lease_t n_ s1 s2).get
def slices_Equal_Wait_s0t (s1 : List TWait) (s2 : List TWait) (t12 : Int) (v_ : Int) : Tree (Int ⊕ (Unit ⊕ Unit)) :=
 .ite (decide (v_ < t12)) (.ite (inR v_ s1.length) (.opt (s1[v_.toNat]?) fun y_1 =>
   .ite (inR v_ s2.length) (.opt (s2[v_.toNat]?) fun y_2 =>
    .ite (!(TWait.eqb y_1 y_2)) (.ret (.inr (.inl ())))
    (.ret (.inl (wi64 (v_ + 1))))) .fail) .fail)
 (.ret (.inr (.inr ())))
def slices_Equal_Wait_s0 := fun s1 s2 t12 v_ => (slices_Equal_Wait_s0t s1 s2 t12 v_).get
def slices_Equal_Wait_l0 := fun s1 s2 t12 t13 => iter (slices_Equal_Wait_s0 s1 s2 t12) n_ t13
def slices_Equal_Wait_t (s1 : List TWait) (s2 : List TWait) : Tree Bool :=
 .ite ((s1.length : Int) != (s2.length : Int)) (.ret false)
 (.opt (slices_Equal_Wait_l0 n_ s1 s2 (s1.length : Int) 0) fun r_1 =>
 altT r_1 (fun a_2 =>
  .ret false) fun b_3 =>
 .ret true)
def slices_Equal_Wait := fun s1 s2 => (slices_Equal_Wait_t n_ s1 s2).get
def slices_Equal_int_s0t (s1 : List Int) (s2 : List Int) (t12 : Int) (v_ : Int) : Tree (Int ⊕ (Unit ⊕ Unit)) :=
 .ite (decide (v_ < t12)) (.ite (inR v_ s1.length) (.opt (s1[v_.toNat]?) fun y_1 =>
   .ite (inR v_ s2.length) (.opt (s2[v_.toNat]?) fun y_2 =>
    .ite (y_1 != y_2) (.ret (.inr (.inl ())))
    (.ret (.inl (wi64 (v_ + 1))))) .fail) .fail)
 (.ret (.inr (.inr ())))
def slices_Equal_int_s0 := fun s1 s2 t12 v_ => (slices_Equal_int_s0t s1 s2 t12 v_).get
def slices_Equal_int_l0 := fun s1 s2 t12 t13 => iter (slices_Equal_int_s0 s1 s2 t12) n_ t13
def slices_Equal_int_t (s1 : List Int) (s2 : List Int) : Tree Bool :=
 .ite ((s1.length : Int) != (s2.length : Int)) (.ret false)
 (.opt (slices_Equal_int_l0 n_ s1 s2 (s1.length : Int) 0) fun r_1 =>
 altT r_1 (fun a_2 =>
  .ret false) fun b_3 =>
 .ret true)
def slices_Equal_int := fun s1 s2 => (slices_Equal_int_t n_ s1 s2).get
def slices_Equal_Tell_s0t (s1 : List TTell) (s2 : List TTell) (t12 : Int) (v_ : Int) : Tree (Int ⊕ (Unit ⊕ Unit)) :=
 .ite (decide (v_ < t12)) (.ite (inR v_ s1.length) (.opt (s1[v_.toNat]?) fun y_1 =>
   .ite (inR v_ s2.length) (.opt (s2[v_.toNat]?) fun y_2 =>
    .ite (!(TTell.eqb y_1 y_2)) (.ret (.inr (.inl ())))
    (.ret (.inl (wi64 (v_ + 1))))) .fail) .fail)
 (.ret (.inr (.inr ())))
def slices_Equal_Tell_s0 := fun s1 s2 t12 v_ => (slices_Equal_Tell_s0t s1 s2 t12 v_).get
def slices_Equal_Tell_l0 := fun s1 s2 t12 t13 => iter (slices_Equal_Tell_s0 s1 s2 t12) n_ t13
def slices_Equal_Tell_t (s1 : List TTell) (s2 : List TTell) : Tree Bool :=
 .ite ((s1.length : Int) != (s2.length : Int)) (.ret false)
 (.opt (slices_Equal_Tell_l0 n_ s1 s2 (s1.length : Int) 0) fun r_1 =>
 altT r_1 (fun a_2 =>
  .ret false) fun b_3 =>
 .ret true)
def slices_Equal_Tell := fun s1 s2 => (slices_Equal_Tell_t n_ s1 s2).get
def server_Same_t (a : TServer) (b : TServer) : Tree Bool :=
 .opt (server_disks n_ a.Store.D b.Store.D) fun r_1 =>
 .ite (!r_1) (.ret false)
 (.opt (state_Same n_ a.Store.S b.Store.S) fun r_2 =>
 .ite (!r_2) (.ret false)
 (.opt (slices_Equal_Lease n_ a.Desk.Leases b.Desk.Leases) fun r_3 =>
 .ite (!r_3) (.ret false)
 (.opt (slices_Equal_Wait n_ a.Desk.Line b.Desk.Line) fun r_4 =>
 .ite (!r_4) (.ret false)
 (.opt (slices_Equal_int n_ a.Seen b.Seen) fun r_5 =>
 .ite (!r_5) (.ret false)
 (.opt (slices_Equal_Tell n_ a.Told b.Told) fun r_6 =>
 .ite (!r_6) (.ret false)
 (.ite (a.Now == b.Now) (.ite (a.Hush == b.Hush) (.ite (a.Bad == b.Bad) (.ite (a.Live == b.Live) (.ret (a.Recalled == b.Recalled))
    (.ret false))
   (.ret false))
  (.ret false))
 (.ret false)))))))
def server_Same := fun a b => (server_Same_t n_ a b).get
def law18_begun_t : Tree Bool :=
 .opt (server_Start n_ 0) fun r_1 =>
 .opt (ref13_PutAsk n_ (TAsk.mk 1 1 0 1 [97] 0 0 [])) fun r_2 =>
 .opt (server_Comes n_ r_1 r_2) fun r_3 =>
 .opt (ref13_PutAsk n_ (TAsk.mk 2 2 0 1 [] 1 1 [])) fun r_4 =>
 .opt (server_Comes n_ r_3.1 r_4) fun r_5 =>
 .opt (server_Comes n_ r_5.1 []) fun r_6 =>
 .opt (server_Boot n_ r_3.1.Store.D 9) fun r_7 =>
 .ite ((r_3.2.length : Int) == 1) (.ite (inR 0 r_3.2.length) (.opt (r_3.2[0]?) fun y_8 =>
   .ite (y_8.File == 1) (.ite (inR 0 r_3.2.length) (.opt (r_3.2[0]?) fun y_9 =>
     .ite (y_9.Seq == 1) (.ite ((r_5.2.length : Int) == 1) (.ite (inR 0 r_5.2.length) (.opt (r_5.2[0]?) fun y_10 =>
        .ite (y_10.Mode == 1) (.ite (r_6.1.Bad == 1) (.ite ((r_6.2.length : Int) == 0) (.ite r_7.2 (.ite (r_7.1.Store.S.Epoch == 1) (.ite (r_7.1.Hush == 83) (.ite r_7.1.Live (.opt (server_Same n_ r_5.1 r_5.1) fun r_11 =>
               .ret r_11)
              (.ret false))
             (.ret false))
            (.ret false))
           (.ret false))
          (.ret false))
         (.ret false))
        (.ret false)) .fail)
      (.ret false))
     (.ret false)) .fail)
   (.ret false)) .fail)
 (.ret false)
def law18_begun := (law18_begun_t n_).get
def desk_Run_c1_t (w : TWait) (o0 : TDesk) (o1 : Int) : Tree Bool :=
 .opt (desk_may n_ o0 o1 w) fun r_1 =>
 .ret r_1
def desk_Run_c1 := fun w o0 o1 => (desk_Run_c1_t n_ w o0 o1).get
def slices_IndexFunc_Wait_4_s0t (s : List TWait) (t7 : Int) (o0 : TDesk) (o1 : Int) (v_ : Int) : Tree (Int ⊕ (Int ⊕ Unit)) :=
 .ite (decide (v_ < t7)) (.ite (inR v_ s.length) (.opt (s[v_.toNat]?) fun y_1 =>
   .opt (desk_Run_c1 n_ y_1 o0 o1) fun r_2 =>
   .ite r_2 (.ret (.inr (.inl v_)))
   (.ret (.inl (wi64 (v_ + 1))))) .fail)
 (.ret (.inr (.inr ())))
def slices_IndexFunc_Wait_4_s0 := fun s t7 o0 o1 v_ => (slices_IndexFunc_Wait_4_s0t n_ s t7 o0 o1 v_).get
def slices_IndexFunc_Wait_4_l0 := fun s t7 o0 o1 t8 => iter (slices_IndexFunc_Wait_4_s0 n_ s t7 o0 o1) n_ t8
def slices_IndexFunc_Wait_4_t (s : List TWait) (o0 : TDesk) (o1 : Int) : Tree Int :=
 .opt (slices_IndexFunc_Wait_4_l0 n_ s (s.length : Int) o0 o1 0) fun r_1 =>
 altT r_1 (fun a_2 =>
  .ret a_2) fun b_3 =>
 .ret (-1)
def slices_IndexFunc_Wait_4 := fun s o0 o1 => (slices_IndexFunc_Wait_4_t n_ s o0 o1).get
def slices_Index__2_int_s0t (s : List (List Int)) (t7 : Int) (v : List Int) (v_ : Int) : Tree (Int ⊕ (Int ⊕ Unit)) :=
 .ite (decide (v_ < t7)) (.ite (inR v_ s.length) (.opt (s[v_.toNat]?) fun y_1 =>
   .ite (eqL (fun a b => a == b) v y_1) (.ret (.inr (.inl v_)))
   (.ret (.inl (wi64 (v_ + 1))))) .fail)
 (.ret (.inr (.inr ())))
def slices_Index__2_int_s0 := fun s t7 v v_ => (slices_Index__2_int_s0t s t7 v v_).get
def slices_Index__2_int_l0 := fun s t7 v t8 => iter (slices_Index__2_int_s0 s t7 v) n_ t8
def slices_Index__2_int_t (s : List (List Int)) (v : List Int) : Tree Int :=
 .opt (slices_Index__2_int_l0 n_ s (s.length : Int) v 0) fun r_1 =>
 altT r_1 (fun a_2 =>
  .ret a_2) fun b_3 =>
 .ret (-1)
def slices_Index__2_int := fun s v => (slices_Index__2_int_t n_ s v).get
def slices_Contains__2_int_t (s : List (List Int)) (v : List Int) : Tree Bool :=
 .opt (slices_Index__2_int n_ s v) fun r_1 =>
 .ret (decide (r_1 ≥ 0))
def slices_Contains__2_int := fun s v => (slices_Contains__2_int_t n_ s v).get
def desk_Run_s0t (o0 : TDesk) (now : Int) (v_ : TDesk × List TWait) : Tree ((TDesk × List TWait) ⊕ (TDesk × List TWait)) :=
 .opt (slices_IndexFunc_Wait_4 n_ v_.1.Line v_.1 now) fun r_1 =>
 .ite (decide (r_1 < 0)) (.ret (.inr (v_.1, v_.2)))
 (.ite (inR r_1 v_.1.Line.length) (.opt (v_.1.Line[r_1.toNat]?) fun y_2 =>
  .opt (desk_lets n_ v_.1 now y_2) fun r_3 =>
  .ite (decide ((v_.2.length + 1) ≤ lim)) (.ret (.inl (r_3, (v_.2 ++ [y_2])))) .fail) .fail)
def desk_Run_s0 := fun o0 now v_ => (desk_Run_s0t n_ o0 now v_).get
def desk_Run_l0 := fun o0 now x let_ => iter (desk_Run_s0 n_ o0 now) n_ (x, let_)
def desk_Run_s1t (t37 : List TWait) (t38 : Int) (t39 : Int) (t46 : List Int) (t47 : Int) (o0 : TDesk) (now : Int) (x : TDesk) (w : TWait) (let_ : List TWait) (v_ : Int × List (List Int)) : Tree ((Int × List (List Int)) ⊕ (List (List Int))) :=
 .ite (decide (v_.1 < t47)) (.ite (inR v_.1 t46.length) (.opt (t46[v_.1.toNat]?) fun y_1 =>
   .opt (slices_Contains__2_int n_ v_.2 [w.File, y_1]) fun r_2 =>
   .ite (!r_2) (.ite (decide ((v_.2.length + 1) ≤ lim)) (.ret (.inl ((wi64 (v_.1 + 1)), (v_.2 ++ [[w.File, y_1]])))) .fail)
   (.ret (.inl ((wi64 (v_.1 + 1)), v_.2)))) .fail)
 (.ret (.inr v_.2))
def desk_Run_s1 := fun t37 t38 t39 t46 t47 o0 now x w let_ v_ => (desk_Run_s1t n_ t37 t38 t39 t46 t47 o0 now x w let_ v_).get
def desk_Run_l1 := fun t37 t38 t39 t46 t47 o0 now x w let_ t48 calls => iter (desk_Run_s1 n_ t37 t38 t39 t46 t47 o0 now x w let_) n_ (t48, calls)
def desk_Run_s2t (t37 : List TWait) (t38 : Int) (o0 : TDesk) (now : Int) (x : TDesk) (let_ : List TWait) (v_ : Int × List (List Int)) : Tree ((Int × List (List Int)) ⊕ (List (List Int))) :=
 .ite (decide (v_.1 < t38)) (.ite (inR v_.1 t37.length) (.opt (t37[v_.1.toNat]?) fun y_1 =>
   .opt (desk_clash n_ x now y_1) fun r_2 =>
   .opt (desk_Run_l1 n_ t37 t38 v_.1 r_2 (r_2.length : Int) o0 now x y_1 let_ 0 v_.2) fun r_3 =>
   .ret (.inl ((wi64 (v_.1 + 1)), r_3))) .fail)
 (.ret (.inr v_.2))
def desk_Run_s2 := fun t37 t38 o0 now x let_ v_ => (desk_Run_s2t n_ t37 t38 o0 now x let_ v_).get
def desk_Run_l2 := fun t37 t38 o0 now x let_ t39 calls => iter (desk_Run_s2 n_ t37 t38 o0 now x let_) n_ (t39, calls)
def desk_Run_t (d : TDesk) (now : Int) : Tree (TDesk × List TWait × List (List Int)) :=
 .opt (desk_pruned n_ d now) fun r_1 =>
 .opt (desk_Run_l0 n_ d now r_1 []) fun r_2 =>
 .opt (desk_Run_l2 n_ r_2.1.Line (r_2.1.Line.length : Int) d now r_2.1 r_2.2 0 []) fun r_3 =>
 .ret (r_2.1, r_2.2, r_3)
def desk_Run := fun d now => (desk_Run_t n_ d now).get
def server_host_there_3_t (n : Int) (h : Tserver_host) : Tree Bool :=
 .ite (decide (n ≥ 1)) (.ite (decide (n ≤ (h.Server.Store.S.Files.length : Int))) (.ite (inR (wi64 (n - 1)) h.Server.Store.S.Files.length) (.opt (h.Server.Store.S.Files[(wi64 (n - 1)).toNat]?) fun y_1 =>
    .ret (!(y_1.Name == []))) .fail)
  (.ret false))
 (.ret false)
def server_host_there_3 := fun n h => (server_host_there_3_t n h).get
def server_host_done_7_t (client : Int) (t : TTell) (h : Tserver_host) : Tree Tserver_host :=
 .ite (decide (client ≥ 1)) (.ite (decide (client ≤ (h.Server.Told.length : Int))) (.ite (inR (wi64 (client - 1)) h.Server.Told.length) (.opt (h.Server.Told[(wi64 (client - 1)).toNat]?) fun y_1 =>
    .ite (decide (y_1.Seq ≤ t.Seq)) (.ite (inR (wi64 (client - 1)) h.Server.Told.length) (.opt (h.Server.Told[(wi64 (client - 1)).toNat]?) fun y_2 =>
      .ret (Tserver_host.mk (TServer.mk h.Server.Store h.Server.Desk h.Server.Seen (h.Server.Told.set (wi64 (client - 1)).toNat (TTell.mk 1 client h.Server.Store.S.Epoch t.Seq t.Err t.File t.Mode t.Ver t.Body)) h.Server.Now h.Server.Hush h.Server.Bad h.Server.Live h.Server.Recalled) [(TTell.mk 1 client h.Server.Store.S.Epoch t.Seq t.Err t.File t.Mode t.Ver t.Body)])) .fail)
    (.ret (Tserver_host.mk h.Server [(TTell.mk 1 client h.Server.Store.S.Epoch t.Seq t.Err t.File t.Mode t.Ver t.Body)]))) .fail)
  (.ret (Tserver_host.mk h.Server [(TTell.mk 1 client h.Server.Store.S.Epoch t.Seq t.Err t.File t.Mode t.Ver t.Body)])))
 (.ret (Tserver_host.mk h.Server [(TTell.mk 1 client h.Server.Store.S.Epoch t.Seq t.Err t.File t.Mode t.Ver t.Body)]))
def server_host_done_7 := fun client t h => (server_host_done_7_t client t h).get
def server_host_done_8_t (client : Int) (t : TTell) (h : Tserver_host) : Tree Tserver_host :=
 .ite (decide (client ≥ 1)) (.ite (decide (client ≤ (h.Server.Told.length : Int))) (.ite (inR (wi64 (client - 1)) h.Server.Told.length) (.opt (h.Server.Told[(wi64 (client - 1)).toNat]?) fun y_1 =>
    .ite (decide (y_1.Seq ≤ t.Seq)) (.ite (inR (wi64 (client - 1)) h.Server.Told.length) (.opt (h.Server.Told[(wi64 (client - 1)).toNat]?) fun y_2 =>
      .ret (Tserver_host.mk (TServer.mk h.Server.Store h.Server.Desk h.Server.Seen (h.Server.Told.set (wi64 (client - 1)).toNat (TTell.mk 1 client h.Server.Store.S.Epoch t.Seq t.Err t.File t.Mode t.Ver t.Body)) h.Server.Now h.Server.Hush h.Server.Bad h.Server.Live h.Server.Recalled) [(TTell.mk 1 client h.Server.Store.S.Epoch t.Seq t.Err t.File t.Mode t.Ver t.Body)])) .fail)
    (.ret (Tserver_host.mk h.Server [(TTell.mk 1 client h.Server.Store.S.Epoch t.Seq t.Err t.File t.Mode t.Ver t.Body)]))) .fail)
  (.ret (Tserver_host.mk h.Server [(TTell.mk 1 client h.Server.Store.S.Epoch t.Seq t.Err t.File t.Mode t.Ver t.Body)])))
 (.ret (Tserver_host.mk h.Server [(TTell.mk 1 client h.Server.Store.S.Epoch t.Seq t.Err t.File t.Mode t.Ver t.Body)]))
def server_host_done_8 := fun client t h => (server_host_done_8_t client t h).get
def server_host_lent_2_t (w : TWait) (h : Tserver_host) : Tree (Tserver_host ⊕ Tserver_host) :=
 .opt (lease_Holds n_ h.Server.Desk.Leases h.Server.Now w.Client w.File) fun r_1 =>
 .opt (server_host_there_3 w.File (Tserver_host.mk h.Server [])) fun r_2 =>
 .ite r_2 (.ite (inR (wi64 (w.File - 1)) h.Server.Store.S.Files.length) (.opt (h.Server.Store.S.Files[(wi64 (w.File - 1)).toNat]?) fun y_3 =>
   .opt (server_host_done_7 w.Client (TTell.mk 0 0 0 w.Seq 0 w.File r_1 y_3.Ver y_3.Body) (Tserver_host.mk h.Server [])) fun r_4 =>
   .ret (.inr r_4)) .fail)
 (.opt (server_host_done_8 w.Client (TTell.mk 0 0 0 w.Seq 0 w.File r_1 0 []) (Tserver_host.mk h.Server [])) fun r_5 =>
 .ret (.inl r_5))
def server_host_there_4_t (n : Int) (h : Tserver_host) : Tree Bool :=
 .ite (decide (n ≥ 1)) (.ite (decide (n ≤ (h.Server.Store.S.Files.length : Int))) (.ite (inR (wi64 (n - 1)) h.Server.Store.S.Files.length) (.opt (h.Server.Store.S.Files[(wi64 (n - 1)).toNat]?) fun y_1 =>
    .ret (!(y_1.Name == []))) .fail)
  (.ret false))
 (.ret false)
def server_host_there_4 := fun n h => (server_host_there_4_t n h).get
def server_host_done_9_t (client : Int) (t : TTell) (h : Tserver_host) : Tree Tserver_host :=
 .ite (decide (client ≥ 1)) (.ite (decide (client ≤ (h.Server.Told.length : Int))) (.ite (inR (wi64 (client - 1)) h.Server.Told.length) (.opt (h.Server.Told[(wi64 (client - 1)).toNat]?) fun y_1 =>
    .ite (decide (y_1.Seq ≤ t.Seq)) (.ite (inR (wi64 (client - 1)) h.Server.Told.length) (.opt (h.Server.Told[(wi64 (client - 1)).toNat]?) fun y_2 =>
      .ite (decide ((h.told.length + 1) ≤ lim)) (.ret (Tserver_host.mk (TServer.mk h.Server.Store h.Server.Desk h.Server.Seen (h.Server.Told.set (wi64 (client - 1)).toNat (TTell.mk 1 client h.Server.Store.S.Epoch t.Seq t.Err t.File t.Mode t.Ver t.Body)) h.Server.Now h.Server.Hush h.Server.Bad h.Server.Live h.Server.Recalled) (h.told ++ [(TTell.mk 1 client h.Server.Store.S.Epoch t.Seq t.Err t.File t.Mode t.Ver t.Body)]))) .fail) .fail)
    (.ite (decide ((h.told.length + 1) ≤ lim)) (.ret (Tserver_host.mk h.Server (h.told ++ [(TTell.mk 1 client h.Server.Store.S.Epoch t.Seq t.Err t.File t.Mode t.Ver t.Body)]))) .fail)) .fail)
  (.ite (decide ((h.told.length + 1) ≤ lim)) (.ret (Tserver_host.mk h.Server (h.told ++ [(TTell.mk 1 client h.Server.Store.S.Epoch t.Seq t.Err t.File t.Mode t.Ver t.Body)]))) .fail))
 (.ite (decide ((h.told.length + 1) ≤ lim)) (.ret (Tserver_host.mk h.Server (h.told ++ [(TTell.mk 1 client h.Server.Store.S.Epoch t.Seq t.Err t.File t.Mode t.Ver t.Body)]))) .fail)
def server_host_done_9 := fun client t h => (server_host_done_9_t client t h).get
def server_host_done_10_t (client : Int) (t : TTell) (h : Tserver_host) : Tree Tserver_host :=
 .ite (decide (client ≥ 1)) (.ite (decide (client ≤ (h.Server.Told.length : Int))) (.ite (inR (wi64 (client - 1)) h.Server.Told.length) (.opt (h.Server.Told[(wi64 (client - 1)).toNat]?) fun y_1 =>
    .ite (decide (y_1.Seq ≤ t.Seq)) (.ite (inR (wi64 (client - 1)) h.Server.Told.length) (.opt (h.Server.Told[(wi64 (client - 1)).toNat]?) fun y_2 =>
      .ite (decide ((h.told.length + 1) ≤ lim)) (.ret (Tserver_host.mk (TServer.mk h.Server.Store h.Server.Desk h.Server.Seen (h.Server.Told.set (wi64 (client - 1)).toNat (TTell.mk 1 client h.Server.Store.S.Epoch t.Seq t.Err t.File t.Mode t.Ver t.Body)) h.Server.Now h.Server.Hush h.Server.Bad h.Server.Live h.Server.Recalled) (h.told ++ [(TTell.mk 1 client h.Server.Store.S.Epoch t.Seq t.Err t.File t.Mode t.Ver t.Body)]))) .fail) .fail)
    (.ite (decide ((h.told.length + 1) ≤ lim)) (.ret (Tserver_host.mk h.Server (h.told ++ [(TTell.mk 1 client h.Server.Store.S.Epoch t.Seq t.Err t.File t.Mode t.Ver t.Body)]))) .fail)) .fail)
  (.ite (decide ((h.told.length + 1) ≤ lim)) (.ret (Tserver_host.mk h.Server (h.told ++ [(TTell.mk 1 client h.Server.Store.S.Epoch t.Seq t.Err t.File t.Mode t.Ver t.Body)]))) .fail))
 (.ite (decide ((h.told.length + 1) ≤ lim)) (.ret (Tserver_host.mk h.Server (h.told ++ [(TTell.mk 1 client h.Server.Store.S.Epoch t.Seq t.Err t.File t.Mode t.Ver t.Body)]))) .fail)
def server_host_done_10 := fun client t h => (server_host_done_10_t client t h).get
def server_host_lent_3_t (w : TWait) (h : Tserver_host) : Tree Tserver_host :=
 .opt (lease_Holds n_ h.Server.Desk.Leases h.Server.Now w.Client w.File) fun r_1 =>
 .opt (server_host_there_4 w.File h) fun r_2 =>
 .ite r_2 (.ite (inR (wi64 (w.File - 1)) h.Server.Store.S.Files.length) (.opt (h.Server.Store.S.Files[(wi64 (w.File - 1)).toNat]?) fun y_3 =>
   .opt (server_host_done_9 w.Client (TTell.mk 0 0 0 w.Seq 0 w.File r_1 y_3.Ver y_3.Body) h) fun r_4 =>
   .ret r_4) .fail)
 (.opt (server_host_done_10 w.Client (TTell.mk 0 0 0 w.Seq 0 w.File r_1 0 []) h) fun r_5 =>
 .ret r_5)
def server_host_lent_3 := fun w h => (server_host_lent_3_t n_ w h).get
def server_host_calls_3_t (client : Int) (file : Int) (h : Tserver_host) : Tree Tserver_host :=
 .ite (decide ((h.told.length + 1) ≤ lim)) (.ret (Tserver_host.mk h.Server (h.told ++ [(TTell.mk 2 client h.Server.Store.S.Epoch 0 0 file 0 0 [])]))) .fail
def server_host_calls_3 := fun client file h => (server_host_calls_3_t client file h).get
def server_Run_s0t (calls : List (List Int)) (t42 : List TWait) (t43 : Int) (o0 : TServer) (o12 : TDesk) (r7 : List TLease) (r8 : List TWait) (v_ : Int × TServer × Tserver_host) : Tree ((Int × TServer × Tserver_host) ⊕ (TServer × Tserver_host)) :=
 .ite (decide (v_.1 < t43)) (.ite (inR v_.1 t42.length) (.opt (t42[v_.1.toNat]?) fun y_1 =>
   .opt (server_host_lent_3 n_ y_1 v_.2.2) fun r_2 =>
   .ret (.inl ((wi64 (v_.1 + 1)), (TServer.mk (TStore.mk (TDisk.mk [] [] v_.2.1.Store.D.Arm v_.2.1.Store.D.Down) (TState.mk [] [] v_.2.1.Store.S.Epoch)) (TDesk.mk [] []) [] [] v_.2.1.Now v_.2.1.Hush v_.2.1.Bad v_.2.1.Live v_.2.1.Recalled), r_2))) .fail)
 (.ret (.inr ((TServer.mk (TStore.mk (TDisk.mk [] [] v_.2.1.Store.D.Arm v_.2.1.Store.D.Down) (TState.mk [] [] v_.2.1.Store.S.Epoch)) (TDesk.mk [] []) [] [] v_.2.1.Now v_.2.1.Hush v_.2.1.Bad v_.2.1.Live v_.2.1.Recalled), v_.2.2)))
def server_Run_s0 := fun calls t42 t43 o0 o12 r7 r8 v_ => (server_Run_s0t n_ calls t42 t43 o0 o12 r7 r8 v_).get
def server_Run_l0 := fun calls t42 t43 o0 o12 r7 r8 t44 o1 h => iter (server_Run_s0 n_ calls t42 t43 o0 o12 r7 r8) n_ (t44, o1, h)
def server_Run_s1t (calls : List (List Int)) (t52 : List (List Int)) (t53 : Int) (o0 : TServer) (o12 : TDesk) (r7 : List TLease) (r8 : List TWait) (v_ : Int × TServer × Tserver_host) : Tree ((Int × TServer × Tserver_host) ⊕ (TServer × Tserver_host)) :=
 .ite (decide (v_.1 < t53)) (.ite (inR v_.1 t52.length) (.opt (t52[v_.1.toNat]?) fun y_1 =>
   .opt (y_1[1]?) fun y_2 =>
   .opt (y_1[0]?) fun y_3 =>
   .opt (server_host_calls_3 y_2 y_3 v_.2.2) fun r_4 =>
   .ret (.inl ((wi64 (v_.1 + 1)), (TServer.mk (TStore.mk (TDisk.mk [] [] v_.2.1.Store.D.Arm v_.2.1.Store.D.Down) (TState.mk [] [] v_.2.1.Store.S.Epoch)) (TDesk.mk [] []) [] [] v_.2.1.Now v_.2.1.Hush v_.2.1.Bad v_.2.1.Live v_.2.1.Recalled), r_4))) .fail)
 (.ret (.inr ((TServer.mk (TStore.mk (TDisk.mk [] [] v_.2.1.Store.D.Arm v_.2.1.Store.D.Down) (TState.mk [] [] v_.2.1.Store.S.Epoch)) (TDesk.mk [] []) [] [] v_.2.1.Now v_.2.1.Hush v_.2.1.Bad v_.2.1.Live v_.2.1.Recalled), v_.2.2)))
def server_Run_s1 := fun calls t52 t53 o0 o12 r7 r8 v_ => (server_Run_s1t calls t52 t53 o0 o12 r7 r8 v_).get
def server_Run_l1 := fun calls t52 t53 o0 o12 r7 r8 t54 o1 h => iter (server_Run_s1 calls t52 t53 o0 o12 r7 r8) n_ (t54, o1, h)
def server_Run_t (s : TServer) : Tree (TServer × List TTell) :=
 .ite (!s.Live) (.ret ((server_of s).Server, []))
 (.ite (decide (s.Now < s.Hush)) (.ret ((server_of s).Server, []))
 (.opt (desk_Run n_ s.Desk s.Now) fun r_1 =>
 .opt (server_Run_l0 n_ r_1.2.2 r_1.2.1 (r_1.2.1.length : Int) s r_1.1 (server_of s).Server.Desk.Leases (server_of s).Server.Desk.Line 0 (TServer.mk (TStore.mk (TDisk.mk [] [] 0 false) (TState.mk [] [] 0)) (TDesk.mk [] []) [] [] 0 0 0 false 0) (Tserver_host.mk (TServer.mk (server_of s).Server.Store r_1.1 (server_of s).Server.Seen (server_of s).Server.Told (server_of s).Server.Now (server_of s).Server.Hush (server_of s).Server.Bad (server_of s).Server.Live (server_of s).Server.Recalled) [])) fun r_2 =>
 .opt (server_Run_l1 n_ r_1.2.2 r_1.2.2 (r_1.2.2.length : Int) s r_1.1 (server_of s).Server.Desk.Leases (server_of s).Server.Desk.Line 0 (TServer.mk (TStore.mk (TDisk.mk [] [] r_2.1.Store.D.Arm r_2.1.Store.D.Down) (TState.mk [] [] r_2.1.Store.S.Epoch)) (TDesk.mk [] []) [] [] r_2.1.Now r_2.1.Hush r_2.1.Bad r_2.1.Live r_2.1.Recalled) r_2.2) fun r_3 =>
 .ret ((TServer.mk r_3.2.Server.Store r_3.2.Server.Desk r_3.2.Server.Seen r_3.2.Server.Told r_3.2.Server.Now r_3.2.Server.Hush r_3.2.Server.Bad r_3.2.Server.Live (imin (wi64 (r_3.2.Server.Recalled + (r_1.2.2.length : Int))) 1073741824)), r_3.2.told)))
def server_Run := fun s => (server_Run_t n_ s).get
def law18_ServerForms_s0t (asks : List TAsk) (want : List TTell) (v_ : Int × TServer) : Tree ((Int × TServer) ⊕ ((TServer × TServer) ⊕ TServer)) :=
 .ite (decide (v_.1 < (asks.length : Int))) (.ite (inR v_.1 asks.length) (.opt (asks[v_.1.toNat]?) fun y_1 =>
   .opt (ref13_PutAsk n_ y_1) fun r_2 =>
   .opt (server_Comes n_ v_.2 r_2) fun r_3 =>
   .ite (inR v_.1 want.length) (.opt (want[v_.1.toNat]?) fun y_4 =>
    .ite (TTell.eqb y_4 (TTell.mk 0 0 0 0 0 0 0 0 [])) (.ite ((r_3.2.length : Int) != 0) (.ret (.inr (.inl (v_.2, r_3.1))))
     (.ite (inR v_.1 want.length) (.opt (want[v_.1.toNat]?) fun y_5 =>
      .ite (!(TTell.eqb y_5 (TTell.mk 0 0 0 0 0 0 0 0 []))) (.ite ((r_3.2.length : Int) != 1) (.ret (.inr (.inl (v_.2, r_3.1))))
       (.ite (inR 0 r_3.2.length) (.opt (r_3.2[0]?) fun y_6 =>
        .ite (inR v_.1 want.length) (.opt (want[v_.1.toNat]?) fun y_7 =>
         .ite (!(TTell.eqb y_6 y_7)) (.ret (.inr (.inl (v_.2, r_3.1))))
         (.ret (.inl ((wi64 (v_.1 + 1)), r_3.1)))) .fail) .fail))
      (.ret (.inl ((wi64 (v_.1 + 1)), r_3.1)))) .fail))
    (.ite (inR v_.1 want.length) (.opt (want[v_.1.toNat]?) fun y_8 =>
     .ite (!(TTell.eqb y_8 (TTell.mk 0 0 0 0 0 0 0 0 []))) (.ite ((r_3.2.length : Int) != 1) (.ret (.inr (.inl (v_.2, r_3.1))))
      (.ite (inR 0 r_3.2.length) (.opt (r_3.2[0]?) fun y_9 =>
       .ite (inR v_.1 want.length) (.opt (want[v_.1.toNat]?) fun y_10 =>
        .ite (!(TTell.eqb y_9 y_10)) (.ret (.inr (.inl (v_.2, r_3.1))))
        (.ret (.inl ((wi64 (v_.1 + 1)), r_3.1)))) .fail) .fail))
     (.ret (.inl ((wi64 (v_.1 + 1)), r_3.1)))) .fail)) .fail) .fail)
 (.ret (.inr (.inr v_.2)))
def law18_ServerForms_s0 := fun asks want v_ => (law18_ServerForms_s0t n_ asks want v_).get
def law18_ServerForms_l0 := fun asks want i s => iter (law18_ServerForms_s0 n_ asks want) n_ (i, s)
def law18_ServerForms_t : Tree Bool :=
 .opt (law18_begun n_) fun r_1 =>
 .ite (!r_1) (.ret false)
 (.opt (server_Start n_ 0) fun r_2 =>
 .opt (law18_ServerForms_l0 n_ [(TAsk.mk 1 1 0 1 [97] 0 0 []), (TAsk.mk 2 1 0 2 [] 1 2 []), (TAsk.mk 2 2 0 1 [] 1 1 []), (TAsk.mk 2 3 0 1 [] 2 1 []), (TAsk.mk 3 1 0 3 [] 1 0 [(TWrite.mk 0 [104, 105])]), (TAsk.mk 3 3 0 2 [] 1 0 [(TWrite.mk 0 [110, 111])]), (TAsk.mk 5 3 0 3 [] 1 0 []), (TAsk.mk 4 1 0 4 [] 1 0 [(TWrite.mk 2 [33])]), (TAsk.mk 4 1 0 3 [] 1 0 []), (TAsk.mk 5 1 0 5 [] 1 0 []), (TAsk.mk 1 1 1 6 [98] 0 0 [])] [(TTell.mk 1 1 0 1 0 1 0 1 []), (TTell.mk 1 1 0 2 0 1 2 1 []), (TTell.mk 2 1 0 0 0 1 0 0 []), (TTell.mk 1 3 0 1 2 0 0 0 []), (TTell.mk 1 1 0 3 0 1 0 2 []), (TTell.mk 1 3 0 2 6 0 0 0 []), (TTell.mk 1 3 0 3 4 0 0 0 []), (TTell.mk 1 1 0 4 0 1 0 3 []), (TTell.mk 0 0 0 0 0 0 0 0 []), (TTell.mk 1 1 0 5 4 0 0 0 []), (TTell.mk 3 1 0 0 0 0 0 0 [])] 0 r_2) fun r_3 =>
 altT r_3 (fun a_4 =>
  .ret false) fun b_5 =>
 .opt (server_Run n_ b_5) fun r_6 =>
 .opt (server_Run n_ r_6.1) fun r_7 =>
 .ite ((r_6.2.length : Int) == 1) (.ite (inR 0 r_6.2.length) (.opt (r_6.2[0]?) fun y_8 =>
   .ite (TTell.eqb y_8 (TTell.mk 1 2 0 1 0 1 1 3 [104, 105, 33])) (.ite ((r_7.2.length : Int) == 0) (.ite ((r_6.1.Desk.Leases.length : Int) == 1) (.opt (server_Same n_ r_6.1 r_7.1) fun r_9 =>
      .ret r_9)
     (.ret false))
    (.ret false))
   (.ret false)) .fail)
 (.ret false))
def law18_ServerForms := (law18_ServerForms_t n_).get
end
end Go.Proofs.YtlejgahbbfeagaaGreatDoor.N
