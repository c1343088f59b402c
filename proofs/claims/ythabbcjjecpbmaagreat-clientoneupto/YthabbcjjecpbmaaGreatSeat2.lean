/- The nice functions: what the program's functions come to. -/
import Derived.Test.YthabbcjjecpbmaaGreatBase5
set_option linter.unusedVariables false
set_option maxRecDepth 10000
namespace Go.Proofs.YthabbcjjecpbmaaGreat.N
open Go.Proofs.YthabbcjjecpbmaaGreat.D (Tree TT altT)
noncomputable section
variable (n_ : Nat)
def client_New (id_ : Int) : TClient := (TClient.mk id_ 0 0 0 [(TCache.mk 0 0 0 [] [] 0 false false), (TCache.mk 0 0 0 [] [] 0 false false), (TCache.mk 0 0 0 [] [] 0 false false), (TCache.mk 0 0 0 [] [] 0 false false), (TCache.mk 0 0 0 [] [] 0 false false), (TCache.mk 0 0 0 [] [] 0 false false)] [[], [], [], [], [], []] (TOut.mk false (TAsk.mk 0 0 0 0 [] 0 0 []) 0 0) 0 0 0)
def client_twin (a : TAsk) : Unit := ()
def cache_twin (c : TCache) : Unit := ()
def cache_Valid_t (c : TCache) (now : Int) : TT Int :=
 .ite (decide (now ≥ c.Until)) (.ret 0)
 (.ret c.Mode)
def cache_Valid := fun c now => (cache_Valid_t c now).val
def cache_Reset_t (c : TCache) : TT TCache :=
 .ite c.Lost (.ret (TCache.mk 0 0 0 [] [] 0 false true))
 (.ret (TCache.mk 0 0 0 [] [] 0 false (decide ((c.Dirty.length : Int) > 0))))
def cache_Reset := fun c => (cache_Reset_t c).val
def cache_Lapse_t (c : TCache) (now : Int) : TT TCache :=
 .ite (c.Mode == 0) (.ret c)
 (.ite ((cache_Valid c now) != 0) (.ret c)
 (.ret (cache_Reset c)))
def cache_Lapse := fun c now => (cache_Lapse_t c now).val
def client_of_s0t (t37 : Int) (c : TClient) (v_ : Int × Tclient_work) : Tree ((Int × Tclient_work) ⊕ Tclient_work) :=
 .ite (decide (v_.1 < t37)) (.ite (inR v_.1 v_.2.Client.Files.length) (.opt (v_.2.Client.Files[v_.1.toNat]?) fun y_1 =>
  .ite (inR v_.1 v_.2.Client.Files.length) (.opt (v_.2.Client.Files[v_.1.toNat]?) fun y_2 =>
  .ret (.inl ((wi64 (v_.1 + 1)), (Tclient_work.mk { v_.2.Client with Files := (v_.2.Client.Files.set v_.1.toNat (cache_Lapse y_1 c.Now)) } [])))) .fail) .fail)
 (.ret (.inr ({ v_.2 with asked := [] })))
def client_of_s0 := fun t37 c v_ => (client_of_s0t t37 c v_).get
def client_of_l0 := fun t37 c t38 w => iter (client_of_s0 t37 c) n_ (t38, w)
def client_of_t (c : TClient) : Tree Tclient_work :=
 .opt (client_of_l0 n_ (c.Files.length : Int) c 0 (Tclient_work.mk c [])) fun r_1 =>
 .ret ({ r_1 with asked := [] })
def client_of := fun c => (client_of_t n_ c).get
def client_work_says (e : Int) (w : Tclient_work) : Tclient_told := (Tclient_told.mk (TAns.mk e 0 []))
def dir_May_s0t (name : List UInt8) (t7 : Int) (r0 : List UInt8) (v_ : Int) : Tree (Int ⊕ (Unit ⊕ Unit)) :=
 .ite (decide (v_ < t7)) (.ite (inR v_ r0.length) (.opt (r0[v_.toNat]?) fun y_1 =>
  .ite (decide ((i8 y_1) < 33)) (.ret (.inr (.inl ())))
  (.ite (decide ((i8 y_1) > 126)) (.ret (.inr (.inl ())))
  (.ret (.inl (wi64 (v_ + 1)))))) .fail)
 (.ret (.inr (.inr ())))
def dir_May_s0 := fun name t7 r0 v_ => (dir_May_s0t name t7 r0 v_).get
def dir_May_l0 := fun name t7 r0 t8 => iter (dir_May_s0 name t7 r0) n_ t8
def dir_May_t (name : List UInt8) : Tree Bool :=
 .opt (dir_May_l0 n_ name (name.length : Int) name 0) fun r_1 =>
 altT r_1 (fun a_2 =>
 .ret false) fun b_3 =>
 .ite (decide ((name.length : Int) ≥ 1)) (.ret (decide ((name.length : Int) ≤ 8)))
 (.ret false)
def dir_May := fun name => (dir_May_t n_ name).get
def slices_Index_string_s0t (s : List (List UInt8)) (v : List UInt8) (t7 : Int) (v_ : Int) : Tree (Int ⊕ (Int ⊕ Unit)) :=
 .ite (decide (v_ < t7)) (.ite (inR v_ s.length) (.opt (s[v_.toNat]?) fun y_1 =>
  .ite (v == y_1) (.ret (.inr (.inl v_)))
  (.ret (.inl (wi64 (v_ + 1))))) .fail)
 (.ret (.inr (.inr ())))
def slices_Index_string_s0 := fun s v t7 v_ => (slices_Index_string_s0t s v t7 v_).get
def slices_Index_string_l0 := fun s v t7 t8 => iter (slices_Index_string_s0 s v t7) n_ t8
def slices_Index_string_t (s : List (List UInt8)) (v : List UInt8) : Tree Int :=
 .opt (slices_Index_string_l0 n_ s v (s.length : Int) 0) fun r_1 =>
 altT r_1 (fun a_2 =>
 .ret a_2) fun b_3 =>
 .ret (-1)
def slices_Index_string := fun s v => (slices_Index_string_t n_ s v).get
def client_work_free_t (w : Tclient_work) : Tree (Unit ⊕ Tclient_told) :=
 .ite w.Client.Out.Is (.ret (.inr (client_work_says 4 { w with asked := [] })))
 (.ret (.inl ()))
def client_work_free := fun w => (client_work_free_t w).get
def client_work_again (w : Tclient_work) : Tclient_work := (Tclient_work.mk { w.Client with Out := { w.Client.Out with Last := w.Client.Now } } [w.Client.Out.Ask])
def client_work_asks (a : TAsk) (w : Tclient_work) : Tclient_work := (client_work_again (Tclient_work.mk { w.Client with Seq := (wi64 (w.Client.Seq + 1)), Out := (TOut.mk true { a with From := w.Client.ID, Epoch := w.Client.Epoch, Seq := (wi64 (w.Client.Seq + 1)) } w.Client.Now 0), Asks := (wi64 (w.Client.Asks + 1)) } []))
def client_work_opens_t (name : List UInt8) (w : Tclient_work) : Tree (Tclient_work ⊕ (Tclient_told × Tclient_work)) :=
 .opt (dir_May n_ name) fun r_1 =>
 .ite (!r_1) (.ret (.inr ((client_work_says 1 { w with asked := [] }), { w with asked := [] })))
 (.opt (slices_Index_string n_ w.Client.Names name) fun r_2 =>
 .ite (decide (r_2 ≥ 0)) (.ret (.inr ((Tclient_told.mk (TAns.mk 0 (wi64 (r_2 + 1)) [])), { w with asked := [] })))
 (.opt (client_work_free { w with asked := [] }) fun r_3 =>
 altT r_3 (fun a_4 =>
 .ret (.inl (client_work_asks (TAsk.mk 1 0 0 0 name 0 0 []) { w with asked := [] }))) fun b_5 =>
 .ret (.inr (b_5, { w with asked := [] }))))
def client_work_opens := fun name w => (client_work_opens_t n_ name w).get
def file_May_t (w : TWrite) : TT Bool :=
 .ite (decide (w.Off ≥ 0)) (.ite (decide ((w.B.length : Int) ≥ 1)) (.ite (decide ((w.B.length : Int) ≤ 24)) (.ret (decide (w.Off ≤ (wi64 (24 - (w.B.length : Int))))))
  (.ret false))
 (.ret false))
 (.ret false)
def file_May := fun w => (file_May_t w).val
def client_work_file_t (n : Int) (w : Tclient_work) : Tree (Nat ⊕ Unit) :=
 .ite (decide (n < 1)) (.ret (.inr ()))
 (.ite (decide (n > (w.Client.Files.length : Int))) (.ret (.inr ()))
 (.ite (inR (wi64 (n - 1)) w.Client.Files.length) (.ret (.inl ((wi64 (n - 1)).toNat))) .fail))
def client_work_file := fun n w => (client_work_file_t n w).get
def client_work_says_2 (e : Int) (w : Tclient_work) : Tclient_told := (Tclient_told.mk (TAns.mk e 0 []))
def client_work_file_2_t (n : Int) (w : Tclient_work) : Tree (Nat ⊕ Unit) :=
 .ite (decide (n < 1)) (.ret (.inr ()))
 (.ite (decide (n > (w.Client.Files.length : Int))) (.ret (.inr ()))
 (.ite (inR (wi64 (n - 1)) w.Client.Files.length) (.ret (.inl ((wi64 (n - 1)).toNat))) .fail))
def client_work_file_2 := fun n w => (client_work_file_2_t n w).get
def file_Put_t (body : List UInt8) (w : TWrite) : Tree (List UInt8) :=
 .ite (!(file_May w)) (.ret body)
 (.ite (decide ((wi64 (w.Off - (body.length : Int))) > 0)) (.ite (repOk ([0] : List UInt8) (wi64 (w.Off - (body.length : Int)))) (.ite (decide ((body.length + (repL ([0] : List UInt8) (wi64 (w.Off - (body.length : Int)))).length) ≤ lim)) (.ite (cutOk 0 w.Off (body ++ (repL ([0] : List UInt8) (wi64 (w.Off - (body.length : Int))))).length) (.ite (decide (((cutL (body ++ (repL ([0] : List UInt8) (wi64 (w.Off - (body.length : Int))))) 0 w.Off).length + w.B.length) ≤ lim)) (.ite (cutOk (imin (wi64 (w.Off + (w.B.length : Int))) ((body ++ (repL ([0] : List UInt8) (wi64 (w.Off - (body.length : Int))))).length : Int)) ((body ++ (repL ([0] : List UInt8) (wi64 (w.Off - (body.length : Int))))).length : Int) (body ++ (repL ([0] : List UInt8) (wi64 (w.Off - (body.length : Int))))).length) (.ite (decide ((((cutL (body ++ (repL ([0] : List UInt8) (wi64 (w.Off - (body.length : Int))))) 0 w.Off) ++ w.B).length + (cutL (body ++ (repL ([0] : List UInt8) (wi64 (w.Off - (body.length : Int))))) (imin (wi64 (w.Off + (w.B.length : Int))) ((body ++ (repL ([0] : List UInt8) (wi64 (w.Off - (body.length : Int))))).length : Int)) ((body ++ (repL ([0] : List UInt8) (wi64 (w.Off - (body.length : Int))))).length : Int)).length) ≤ lim)) (.ret (((cutL (body ++ (repL ([0] : List UInt8) (wi64 (w.Off - (body.length : Int))))) 0 w.Off) ++ w.B) ++ (cutL (body ++ (repL ([0] : List UInt8) (wi64 (w.Off - (body.length : Int))))) (imin (wi64 (w.Off + (w.B.length : Int))) ((body ++ (repL ([0] : List UInt8) (wi64 (w.Off - (body.length : Int))))).length : Int)) ((body ++ (repL ([0] : List UInt8) (wi64 (w.Off - (body.length : Int))))).length : Int)))) .fail) .fail) .fail) .fail) .fail) .fail)
 (.ite (cutOk 0 w.Off body.length) (.ite (decide (((cutL body 0 w.Off).length + w.B.length) ≤ lim)) (.ite (cutOk (imin (wi64 (w.Off + (w.B.length : Int))) (body.length : Int)) (body.length : Int) body.length) (.ite (decide ((((cutL body 0 w.Off) ++ w.B).length + (cutL body (imin (wi64 (w.Off + (w.B.length : Int))) (body.length : Int)) (body.length : Int)).length) ≤ lim)) (.ret (((cutL body 0 w.Off) ++ w.B) ++ (cutL body (imin (wi64 (w.Off + (w.B.length : Int))) (body.length : Int)) (body.length : Int)))) .fail) .fail) .fail) .fail))
def file_Put := fun body w => (file_Put_t body w).get
def file_All_s0t (t7 : List TWrite) (t8 : Int) (v_ : List UInt8 × Int) : Tree ((List UInt8 × Int) ⊕ (List UInt8)) :=
 .ite (decide (v_.2 < t8)) (.ite (inR v_.2 t7.length) (.opt (t7[v_.2.toNat]?) fun y_1 =>
  .opt (file_Put v_.1 y_1) fun r_2 =>
  .ret (.inl (r_2, (wi64 (v_.2 + 1))))) .fail)
 (.ret (.inr v_.1))
def file_All_s0 := fun t7 t8 v_ => (file_All_s0t t7 t8 v_).get
def file_All_l0 := fun t7 t8 body t9 => iter (file_All_s0 t7 t8) n_ (body, t9)
def file_All_t (body : List UInt8) (l : List TWrite) : Tree (List UInt8) :=
 .opt (file_All_l0 n_ l (l.length : Int) body 0) fun r_1 =>
 .ret r_1
def file_All := fun body l => (file_All_t n_ body l).get
def cache_View_t (c : TCache) : Tree (List UInt8) :=
 .opt (file_All n_ c.Body c.Dirty) fun r_1 =>
 .ret r_1
def cache_View := fun c => (cache_View_t n_ c).get
def client_work_free_2_t (w : Tclient_work) : Tree (Unit ⊕ Tclient_told) :=
 .ite w.Client.Out.Is (.ret (.inr (client_work_says_2 4 { w with asked := [] })))
 (.ret (.inl ()))
def client_work_free_2 := fun w => (client_work_free_2_t w).get
def client_work_again_2 (w : Tclient_work) : Tclient_work := (Tclient_work.mk { w.Client with Out := { w.Client.Out with Last := w.Client.Now } } [w.Client.Out.Ask])
def client_work_asks_2 (a : TAsk) (w : Tclient_work) : Tclient_work := (client_work_again_2 (Tclient_work.mk { w.Client with Seq := (wi64 (w.Client.Seq + 1)), Out := (TOut.mk true { a with From := w.Client.ID, Epoch := w.Client.Epoch, Seq := (wi64 (w.Client.Seq + 1)) } w.Client.Now 0), Asks := (wi64 (w.Client.Asks + 1)) } []))
def client_work_reads_t (n : Int) (w : Tclient_work) : Tree (Tclient_work ⊕ (Tclient_work ⊕ ((Tclient_told × Tclient_work) ⊕ (Tclient_told × Tclient_work)))) :=
 .opt (client_work_file_2 n { w with asked := [] }) fun r_1 =>
 altT r_1 (fun a_2 =>
 .opt (w.Client.Files[a_2]?) fun y_3 =>
 .ite ((cache_Valid y_3 w.Client.Now) != 0) (.opt (w.Client.Files[a_2]?) fun y_4 =>
  .opt (cache_View n_ y_4) fun r_5 =>
  .ret (.inr (.inr (.inl ((Tclient_told.mk (TAns.mk 0 0 r_5)), (Tclient_work.mk { w.Client with Hits := (wi64 (w.Client.Hits + 1)) } []))))))
 (.opt (client_work_free_2 { w with asked := [] }) fun r_6 =>
 altT r_6 (fun a_7 =>
  .ret (.inl (client_work_asks_2 (TAsk.mk 2 0 0 0 [] n 1 []) { w with asked := [] }))) fun b_8 =>
 .ret (.inr (.inr (.inl (b_8, { w with asked := [] })))))) fun b_9 =>
 .ite ((cache_Valid (TCache.mk 0 0 0 [] [] 0 false false) w.Client.Now) != 0) (.opt (cache_View n_ (TCache.mk 0 0 0 [] [] 0 false false)) fun r_10 =>
 .ret (.inr (.inr (.inr ((Tclient_told.mk (TAns.mk 0 0 r_10)), (Tclient_work.mk { w.Client with Hits := (wi64 (w.Client.Hits + 1)) } []))))))
 (.opt (client_work_free_2 { w with asked := [] }) fun r_11 =>
 altT r_11 (fun a_12 =>
 .ret (.inr (.inl (client_work_asks_2 (TAsk.mk 2 0 0 0 [] n 1 []) { w with asked := [] })))) fun b_13 =>
 .ret (.inr (.inr (.inr (b_13, { w with asked := [] })))))
def client_work_reads := fun n w => (client_work_reads_t n_ n w).get
def cache_twin_2 (c : TCache) : Unit := ()
def cache_Buffer_t (c : TCache) (w : TWrite) : Tree (TCache × Bool) :=
 .ite (decide ((c.Dirty.length : Int) ≥ 5)) (.ret (c, false))
 (.ite (c.Mode != 2) (.ret (c, false))
 (.ite (!(file_May w)) (.ret (c, false))
 (.ite (decide ((c.Dirty.length + 1) ≤ lim)) (.ret ({ c with Dirty := (c.Dirty ++ [w]) }, true)) .fail)))
def cache_Buffer := fun c w => (cache_Buffer_t c w).get
def client_work_gives_t (n : Int) (w : Tclient_work) : Tree (Tclient_work ⊕ Tclient_work) :=
 .opt (client_work_file_2 n { w with asked := [] }) fun r_1 =>
 altT r_1 (fun a_2 =>
 .opt (w.Client.Files[a_2]?) fun y_3 =>
 .opt ((client_work_asks_2 (TAsk.mk 4 0 0 0 [] n 0 y_3.Dirty) { w with asked := [] }).Client.Files[a_2]?) fun y_4 =>
 .opt ((client_work_asks_2 (TAsk.mk 4 0 0 0 [] n 0 y_3.Dirty) { w with asked := [] }).Client.Files[a_2]?) fun y_5 =>
 .opt ((client_work_asks_2 (TAsk.mk 4 0 0 0 [] n 0 y_3.Dirty) { w with asked := [] }).Client.Files[a_2]?) fun y_6 =>
 .opt (((client_work_asks_2 (TAsk.mk 4 0 0 0 [] n 0 y_3.Dirty) { w with asked := [] }).Client.Files.set a_2 (cache_Reset y_5))[a_2]?) fun y_7 =>
 .ret (.inl ({ (client_work_asks_2 (TAsk.mk 4 0 0 0 [] n 0 y_3.Dirty) { w with asked := [] }) with Client := { (client_work_asks_2 (TAsk.mk 4 0 0 0 [] n 0 y_3.Dirty) { w with asked := [] }).Client with Files := (((client_work_asks_2 (TAsk.mk 4 0 0 0 [] n 0 y_3.Dirty) { w with asked := [] }).Client.Files.set a_2 (cache_Reset y_5)).set a_2 { y_7 with Lost := y_4.Lost }) } }))) fun b_8 =>
 .ret (.inr (client_work_asks_2 (TAsk.mk 4 0 0 0 [] n 0 []) { w with asked := [] }))
def client_work_gives := fun n w => (client_work_gives_t n w).get
def client_work_flushes_t (n : Int) (w : Tclient_work) : Tree (Tclient_work ⊕ Tclient_work) :=
 .opt (client_work_file_2 n { w with asked := [] }) fun r_1 =>
 altT r_1 (fun a_2 =>
 .opt (w.Client.Files[a_2]?) fun y_3 =>
 .opt (w.Client.Files[a_2]?) fun y_4 =>
 .opt ((w.Client.Files.set a_2 { y_4 with Sent := (y_3.Dirty.length : Int) })[a_2]?) fun y_5 =>
 .ret (.inl (client_work_asks_2 (TAsk.mk 3 0 0 0 [] n 0 y_5.Dirty) (Tclient_work.mk { w.Client with Files := (w.Client.Files.set a_2 { y_4 with Sent := (y_3.Dirty.length : Int) }) } [])))) fun b_6 =>
 .ret (.inr (client_work_asks_2 (TAsk.mk 3 0 0 0 [] n 0 []) { w with asked := [] }))
def client_work_flushes := fun n w => (client_work_flushes_t n w).get
def client_work_writes_t (n : Int) (x : TWrite) (w : Tclient_work) : Tree (Tclient_work ⊕ (Tclient_work ⊕ (Tclient_work ⊕ (Tclient_work ⊕ ((Tclient_told × Tclient_work) ⊕ ((Tclient_told × Tclient_work) ⊕ (Tclient_told × Tclient_work))))))) :=
 .opt (client_work_file_2 n { w with asked := [] }) fun r_1 =>
 altT r_1 (fun a_2 =>
 .opt (w.Client.Files[a_2]?) fun y_3 =>
 .ite ((cache_Valid y_3 w.Client.Now) == 2) (.opt (w.Client.Files[a_2]?) fun y_4 =>
  .ite (!y_4.Called) (.opt (w.Client.Files[a_2]?) fun y_5 =>
  .opt (cache_Buffer y_5 x) fun r_6 =>
  .ite r_6.2 (.opt (w.Client.Files[a_2]?) fun y_7 =>
   .ret (.inr (.inr (.inr (.inr (.inr (.inl ((client_work_says_2 0 (Tclient_work.mk { w.Client with Files := (w.Client.Files.set a_2 r_6.1), Hits := (wi64 (w.Client.Hits + 1)) } [])), (Tclient_work.mk { w.Client with Files := (w.Client.Files.set a_2 r_6.1), Hits := (wi64 (w.Client.Hits + 1)) } [])))))))))
  (.opt (client_work_free_2 { w with asked := [] }) fun r_8 =>
  altT r_8 (fun a_9 =>
   .ite (!((cache_Valid y_3 w.Client.Now) == 2)) (.ret (.inr (.inl (client_work_asks_2 (TAsk.mk 2 0 0 0 [] n 2 []) { w with asked := [] }))))
   (.opt (w.Client.Files[a_2]?) fun y_10 =>
   .ite y_10.Called (.opt (client_work_gives n { w with asked := [] }) fun r_11 =>
   altT r_11 (fun a_12 =>
    .ret (.inr (.inl a_12))) fun b_13 =>
   .ret (.inr (.inr (.inl b_13))))
   (.opt (client_work_flushes n { w with asked := [] }) fun r_14 =>
   altT r_14 (fun a_15 =>
   .ret (.inr (.inl a_15))) fun b_16 =>
   .ret (.inr (.inr (.inl b_16)))))) fun b_17 =>
  .ret (.inr (.inr (.inr (.inr (.inr (.inl (b_17, { w with asked := [] })))))))))
  (.opt (client_work_free_2 { w with asked := [] }) fun r_18 =>
  altT r_18 (fun a_19 =>
  .ite (!((cache_Valid y_3 w.Client.Now) == 2)) (.ret (.inl (client_work_asks_2 (TAsk.mk 2 0 0 0 [] n 2 []) { w with asked := [] })))
  (.opt (w.Client.Files[a_2]?) fun y_20 =>
  .ite y_20.Called (.opt (client_work_gives n { w with asked := [] }) fun r_21 =>
   altT r_21 (fun a_22 =>
   .ret (.inl a_22)) fun b_23 =>
   .ret (.inr (.inl b_23)))
  (.opt (client_work_flushes n { w with asked := [] }) fun r_24 =>
  altT r_24 (fun a_25 =>
   .ret (.inl a_25)) fun b_26 =>
  .ret (.inr (.inl b_26))))) fun b_27 =>
  .ret (.inr (.inr (.inr (.inr (.inl (b_27, { w with asked := [] }))))))))
 (.opt (client_work_free_2 { w with asked := [] }) fun r_28 =>
 altT r_28 (fun a_29 =>
  .ite (!((cache_Valid y_3 w.Client.Now) == 2)) (.ret (.inl (client_work_asks_2 (TAsk.mk 2 0 0 0 [] n 2 []) { w with asked := [] })))
  (.opt (w.Client.Files[a_2]?) fun y_30 =>
  .ite y_30.Called (.opt (client_work_gives n { w with asked := [] }) fun r_31 =>
  altT r_31 (fun a_32 =>
   .ret (.inl a_32)) fun b_33 =>
  .ret (.inr (.inl b_33)))
  (.opt (client_work_flushes n { w with asked := [] }) fun r_34 =>
  altT r_34 (fun a_35 =>
  .ret (.inl a_35)) fun b_36 =>
  .ret (.inr (.inl b_36))))) fun b_37 =>
 .ret (.inr (.inr (.inr (.inr (.inl (b_37, { w with asked := [] })))))))) fun b_38 =>
 .ite ((cache_Valid (TCache.mk 0 0 0 [] [] 0 false false) w.Client.Now) == 2) (.opt (cache_Buffer (TCache.mk 0 0 0 [] [] 0 false false) x) fun r_39 =>
 .ite r_39.2 (.ret (.inr (.inr (.inr (.inr (.inr (.inr ((client_work_says_2 0 (Tclient_work.mk { w.Client with Hits := (wi64 (w.Client.Hits + 1)) } [])), (Tclient_work.mk { w.Client with Hits := (wi64 (w.Client.Hits + 1)) } [])))))))))
 (.opt (client_work_free_2 { w with asked := [] }) fun r_40 =>
 altT r_40 (fun a_41 =>
  .ite (!((cache_Valid (TCache.mk 0 0 0 [] [] 0 false false) w.Client.Now) == 2)) (.ret (.inr (.inr (.inl (client_work_asks_2 (TAsk.mk 2 0 0 0 [] n 2 []) { w with asked := [] })))))
  (.opt (client_work_flushes n { w with asked := [] }) fun r_42 =>
  altT r_42 (fun a_43 =>
  .ret (.inr (.inr (.inl a_43)))) fun b_44 =>
  .ret (.inr (.inr (.inr (.inl b_44)))))) fun b_45 =>
 .ret (.inr (.inr (.inr (.inr (.inr (.inr (b_45, { w with asked := [] })))))))))
 (.opt (client_work_free_2 { w with asked := [] }) fun r_46 =>
 altT r_46 (fun a_47 =>
 .ite (!((cache_Valid (TCache.mk 0 0 0 [] [] 0 false false) w.Client.Now) == 2)) (.ret (.inr (.inl (client_work_asks_2 (TAsk.mk 2 0 0 0 [] n 2 []) { w with asked := [] }))))
 (.opt (client_work_flushes n { w with asked := [] }) fun r_48 =>
 altT r_48 (fun a_49 =>
  .ret (.inr (.inl a_49))) fun b_50 =>
 .ret (.inr (.inr (.inl b_50))))) fun b_51 =>
 .ret (.inr (.inr (.inr (.inr (.inr (.inl (b_51, { w with asked := [] }))))))))
def client_work_writes := fun n x w => (client_work_writes_t n x w).get
def client_work_syncs_t (n : Int) (w : Tclient_work) : Tree (Tclient_work ⊕ (Tclient_work ⊕ ((Tclient_told × Tclient_work) ⊕ (Tclient_told × Tclient_work)))) :=
 .ite w.Client.Out.Is (.ite (w.Client.Out.Ask.Kind == 4) (.ite (w.Client.Out.Ask.File == n) (.ite (decide ((w.Client.Out.Ask.Writes.length : Int) > 0)) (.ret (.inr (.inr (.inl ((client_work_says_2 4 { w with asked := [] }), { w with asked := [] })))))
  (.opt (client_work_file_2 n { w with asked := [] }) fun r_1 =>
  altT r_1 (fun a_2 =>
   .opt (w.Client.Files[a_2]?) fun y_3 =>
   .ite ((y_3.Dirty.length : Int) == 0) (.ret (.inr (.inr (.inl ((client_work_says_2 0 { w with asked := [] }), { w with asked := [] })))))
   (.opt (client_work_free_2 { w with asked := [] }) fun r_4 =>
   altT r_4 (fun a_5 =>
   .opt (client_work_flushes n { w with asked := [] }) fun r_6 =>
   altT r_6 (fun a_7 =>
    .ret (.inl a_7)) fun b_8 =>
   .ret (.inr (.inl b_8))) fun b_9 =>
   .ret (.inr (.inr (.inl (b_9, { w with asked := [] })))))) fun b_10 =>
  .ret (.inr (.inr (.inr ((client_work_says_2 0 { w with asked := [] }), { w with asked := [] }))))))
  (.opt (client_work_file_2 n { w with asked := [] }) fun r_11 =>
  altT r_11 (fun a_12 =>
  .opt (w.Client.Files[a_12]?) fun y_13 =>
  .ite ((y_13.Dirty.length : Int) == 0) (.ret (.inr (.inr (.inl ((client_work_says_2 0 { w with asked := [] }), { w with asked := [] })))))
  (.opt (client_work_free_2 { w with asked := [] }) fun r_14 =>
  altT r_14 (fun a_15 =>
   .opt (client_work_flushes n { w with asked := [] }) fun r_16 =>
   altT r_16 (fun a_17 =>
   .ret (.inl a_17)) fun b_18 =>
   .ret (.inr (.inl b_18))) fun b_19 =>
  .ret (.inr (.inr (.inl (b_19, { w with asked := [] })))))) fun b_20 =>
  .ret (.inr (.inr (.inr ((client_work_says_2 0 { w with asked := [] }), { w with asked := [] }))))))
 (.opt (client_work_file_2 n { w with asked := [] }) fun r_21 =>
 altT r_21 (fun a_22 =>
  .opt (w.Client.Files[a_22]?) fun y_23 =>
  .ite ((y_23.Dirty.length : Int) == 0) (.ret (.inr (.inr (.inl ((client_work_says_2 0 { w with asked := [] }), { w with asked := [] })))))
  (.opt (client_work_free_2 { w with asked := [] }) fun r_24 =>
  altT r_24 (fun a_25 =>
  .opt (client_work_flushes n { w with asked := [] }) fun r_26 =>
  altT r_26 (fun a_27 =>
   .ret (.inl a_27)) fun b_28 =>
  .ret (.inr (.inl b_28))) fun b_29 =>
  .ret (.inr (.inr (.inl (b_29, { w with asked := [] })))))) fun b_30 =>
 .ret (.inr (.inr (.inr ((client_work_says_2 0 { w with asked := [] }), { w with asked := [] }))))))
 (.opt (client_work_file_2 n { w with asked := [] }) fun r_31 =>
 altT r_31 (fun a_32 =>
 .opt (w.Client.Files[a_32]?) fun y_33 =>
 .ite ((y_33.Dirty.length : Int) == 0) (.ret (.inr (.inr (.inl ((client_work_says_2 0 { w with asked := [] }), { w with asked := [] })))))
 (.opt (client_work_free_2 { w with asked := [] }) fun r_34 =>
 altT r_34 (fun a_35 =>
  .opt (client_work_flushes n { w with asked := [] }) fun r_36 =>
  altT r_36 (fun a_37 =>
  .ret (.inl a_37)) fun b_38 =>
  .ret (.inr (.inl b_38))) fun b_39 =>
 .ret (.inr (.inr (.inl (b_39, { w with asked := [] })))))) fun b_40 =>
 .ret (.inr (.inr (.inr ((client_work_says_2 0 { w with asked := [] }), { w with asked := [] })))))
def client_work_syncs := fun n w => (client_work_syncs_t n w).get
def client_work_drops_t (n : Int) (w : Tclient_work) : Tree (Tclient_work ⊕ (Tclient_work ⊕ ((Tclient_told × Tclient_work) ⊕ (Tclient_told × Tclient_work)))) :=
 .opt (client_work_file_2 n { w with asked := [] }) fun r_1 =>
 altT r_1 (fun a_2 =>
 .opt (w.Client.Files[a_2]?) fun y_3 =>
 .ite (y_3.Mode == 0) (.ret (.inr (.inr (.inl ((client_work_says_2 0 { w with asked := [] }), { w with asked := [] })))))
 (.opt (client_work_free_2 { w with asked := [] }) fun r_4 =>
 altT r_4 (fun a_5 =>
  .opt (client_work_gives n { w with asked := [] }) fun r_6 =>
  altT r_6 (fun a_7 =>
  .ret (.inl a_7)) fun b_8 =>
  .ret (.inr (.inl b_8))) fun b_9 =>
 .ret (.inr (.inr (.inl (b_9, { w with asked := [] })))))) fun b_10 =>
 .ret (.inr (.inr (.inr ((client_work_says_2 0 { w with asked := [] }), { w with asked := [] }))))
def client_work_drops := fun n w => (client_work_drops_t n w).get
def client_work_ends_t (n : Int) (w : Tclient_work) : Tree (Tclient_work ⊕ (Tclient_work ⊕ (Tclient_told × Tclient_work))) :=
 .opt (client_work_free_2 { w with asked := [] }) fun r_1 =>
 altT r_1 (fun a_2 =>
 .opt (client_work_file_2 n { w with asked := [] }) fun r_3 =>
 altT r_3 (fun a_4 =>
  .opt (w.Client.Files[a_4]?) fun y_5 =>
  .ite (decide ((y_5.Dirty.length : Int) > 0)) (.ret (.inr (.inr ((client_work_says_2 4 { w with asked := [] }), { w with asked := [] }))))
  (.opt ((client_work_asks_2 (TAsk.mk 5 0 0 0 [] n 0 []) { w with asked := [] }).Client.Files[a_4]?) fun y_6 =>
  .opt ((client_work_asks_2 (TAsk.mk 5 0 0 0 [] n 0 []) { w with asked := [] }).Client.Files[a_4]?) fun y_7 =>
  .ret (.inl ({ (client_work_asks_2 (TAsk.mk 5 0 0 0 [] n 0 []) { w with asked := [] }) with Client := { (client_work_asks_2 (TAsk.mk 5 0 0 0 [] n 0 []) { w with asked := [] }).Client with Files := ((client_work_asks_2 (TAsk.mk 5 0 0 0 [] n 0 []) { w with asked := [] }).Client.Files.set a_4 (cache_Reset y_6)) } })))) fun b_8 =>
 .ret (.inr (.inl (client_work_asks_2 (TAsk.mk 5 0 0 0 [] n 0 []) { w with asked := [] })))) fun b_9 =>
 .ret (.inr (.inr (b_9, { w with asked := [] })))
def client_work_ends := fun n w => (client_work_ends_t n w).get
def client_work_reads_2_t (n : Int) (w : Tclient_work) : Tree (Tclient_work ⊕ (Tclient_work ⊕ ((Tclient_told × Tclient_work) ⊕ (Tclient_told × Tclient_work)))) :=
 .opt (client_work_file n { w with asked := [] }) fun r_1 =>
 altT r_1 (fun a_2 =>
 .opt (w.Client.Files[a_2]?) fun y_3 =>
 .ite ((cache_Valid y_3 w.Client.Now) != 0) (.opt (w.Client.Files[a_2]?) fun y_4 =>
  .opt (cache_View n_ y_4) fun r_5 =>
  .ret (.inr (.inr (.inl ((Tclient_told.mk (TAns.mk 0 0 r_5)), (Tclient_work.mk { w.Client with Hits := (wi64 (w.Client.Hits + 1)) } []))))))
 (.opt (client_work_free_2 { w with asked := [] }) fun r_6 =>
 altT r_6 (fun a_7 =>
  .ret (.inl (client_work_asks_2 (TAsk.mk 2 0 0 0 [] n 1 []) { w with asked := [] }))) fun b_8 =>
 .ret (.inr (.inr (.inl (b_8, { w with asked := [] })))))) fun b_9 =>
 .ite ((cache_Valid (TCache.mk 0 0 0 [] [] 0 false false) w.Client.Now) != 0) (.opt (cache_View n_ (TCache.mk 0 0 0 [] [] 0 false false)) fun r_10 =>
 .ret (.inr (.inr (.inr ((Tclient_told.mk (TAns.mk 0 0 r_10)), (Tclient_work.mk { w.Client with Hits := (wi64 (w.Client.Hits + 1)) } []))))))
 (.opt (client_work_free { w with asked := [] }) fun r_11 =>
 altT r_11 (fun a_12 =>
 .ret (.inr (.inl (client_work_asks (TAsk.mk 2 0 0 0 [] n 1 []) { w with asked := [] })))) fun b_13 =>
 .ret (.inr (.inr (.inr (b_13, { w with asked := [] })))))
def client_work_reads_2 := fun n w => (client_work_reads_2_t n_ n w).get
def client_work_flushes_2_t (n : Int) (w : Tclient_work) : Tree (Tclient_work ⊕ Tclient_work) :=
 .opt (client_work_file n { w with asked := [] }) fun r_1 =>
 altT r_1 (fun a_2 =>
 .opt (w.Client.Files[a_2]?) fun y_3 =>
 .opt (w.Client.Files[a_2]?) fun y_4 =>
 .opt ((w.Client.Files.set a_2 { y_4 with Sent := (y_3.Dirty.length : Int) })[a_2]?) fun y_5 =>
 .ret (.inl (client_work_asks_2 (TAsk.mk 3 0 0 0 [] n 0 y_5.Dirty) (Tclient_work.mk { w.Client with Files := (w.Client.Files.set a_2 { y_4 with Sent := (y_3.Dirty.length : Int) }) } [])))) fun b_6 =>
 .ret (.inr (client_work_asks (TAsk.mk 3 0 0 0 [] n 0 []) { w with asked := [] }))
def client_work_flushes_2 := fun n w => (client_work_flushes_2_t n w).get
def client_work_writes_2_t (n : Int) (x : TWrite) (w : Tclient_work) : Tree (Tclient_work ⊕ (Tclient_work ⊕ (Tclient_work ⊕ (Tclient_work ⊕ ((Tclient_told × Tclient_work) ⊕ ((Tclient_told × Tclient_work) ⊕ (Tclient_told × Tclient_work))))))) :=
 .opt (client_work_file n { w with asked := [] }) fun r_1 =>
 altT r_1 (fun a_2 =>
 .opt (w.Client.Files[a_2]?) fun y_3 =>
 .ite ((cache_Valid y_3 w.Client.Now) == 2) (.opt (w.Client.Files[a_2]?) fun y_4 =>
  .ite (!y_4.Called) (.opt (w.Client.Files[a_2]?) fun y_5 =>
  .opt (cache_Buffer y_5 x) fun r_6 =>
  .ite r_6.2 (.opt (w.Client.Files[a_2]?) fun y_7 =>
   .ret (.inr (.inr (.inr (.inr (.inr (.inl ((client_work_says_2 0 (Tclient_work.mk { w.Client with Files := (w.Client.Files.set a_2 r_6.1), Hits := (wi64 (w.Client.Hits + 1)) } [])), (Tclient_work.mk { w.Client with Files := (w.Client.Files.set a_2 r_6.1), Hits := (wi64 (w.Client.Hits + 1)) } [])))))))))
  (.opt (client_work_free_2 { w with asked := [] }) fun r_8 =>
  altT r_8 (fun a_9 =>
   .ite (!((cache_Valid y_3 w.Client.Now) == 2)) (.ret (.inr (.inl (client_work_asks_2 (TAsk.mk 2 0 0 0 [] n 2 []) { w with asked := [] }))))
   (.opt (w.Client.Files[a_2]?) fun y_10 =>
   .ite y_10.Called (.opt (client_work_gives n { w with asked := [] }) fun r_11 =>
   altT r_11 (fun a_12 =>
    .ret (.inr (.inl a_12))) fun b_13 =>
   .ret (.inr (.inr (.inl b_13))))
   (.opt (client_work_flushes n { w with asked := [] }) fun r_14 =>
   altT r_14 (fun a_15 =>
   .ret (.inr (.inl a_15))) fun b_16 =>
   .ret (.inr (.inr (.inl b_16)))))) fun b_17 =>
  .ret (.inr (.inr (.inr (.inr (.inr (.inl (b_17, { w with asked := [] })))))))))
  (.opt (client_work_free_2 { w with asked := [] }) fun r_18 =>
  altT r_18 (fun a_19 =>
  .ite (!((cache_Valid y_3 w.Client.Now) == 2)) (.ret (.inl (client_work_asks_2 (TAsk.mk 2 0 0 0 [] n 2 []) { w with asked := [] })))
  (.opt (w.Client.Files[a_2]?) fun y_20 =>
  .ite y_20.Called (.opt (client_work_gives n { w with asked := [] }) fun r_21 =>
   altT r_21 (fun a_22 =>
   .ret (.inl a_22)) fun b_23 =>
   .ret (.inr (.inl b_23)))
  (.opt (client_work_flushes n { w with asked := [] }) fun r_24 =>
  altT r_24 (fun a_25 =>
   .ret (.inl a_25)) fun b_26 =>
  .ret (.inr (.inl b_26))))) fun b_27 =>
  .ret (.inr (.inr (.inr (.inr (.inl (b_27, { w with asked := [] }))))))))
 (.opt (client_work_free_2 { w with asked := [] }) fun r_28 =>
 altT r_28 (fun a_29 =>
  .ite (!((cache_Valid y_3 w.Client.Now) == 2)) (.ret (.inl (client_work_asks_2 (TAsk.mk 2 0 0 0 [] n 2 []) { w with asked := [] })))
  (.opt (w.Client.Files[a_2]?) fun y_30 =>
  .ite y_30.Called (.opt (client_work_gives n { w with asked := [] }) fun r_31 =>
  altT r_31 (fun a_32 =>
   .ret (.inl a_32)) fun b_33 =>
  .ret (.inr (.inl b_33)))
  (.opt (client_work_flushes n { w with asked := [] }) fun r_34 =>
  altT r_34 (fun a_35 =>
  .ret (.inl a_35)) fun b_36 =>
  .ret (.inr (.inl b_36))))) fun b_37 =>
 .ret (.inr (.inr (.inr (.inr (.inl (b_37, { w with asked := [] })))))))) fun b_38 =>
 .ite ((cache_Valid (TCache.mk 0 0 0 [] [] 0 false false) w.Client.Now) == 2) (.opt (cache_Buffer (TCache.mk 0 0 0 [] [] 0 false false) x) fun r_39 =>
 .ite r_39.2 (.ret (.inr (.inr (.inr (.inr (.inr (.inr ((client_work_says 0 (Tclient_work.mk { w.Client with Hits := (wi64 (w.Client.Hits + 1)) } [])), (Tclient_work.mk { w.Client with Hits := (wi64 (w.Client.Hits + 1)) } [])))))))))
 (.opt (client_work_free { w with asked := [] }) fun r_40 =>
 altT r_40 (fun a_41 =>
  .ite (!((cache_Valid (TCache.mk 0 0 0 [] [] 0 false false) w.Client.Now) == 2)) (.ret (.inr (.inr (.inl (client_work_asks (TAsk.mk 2 0 0 0 [] n 2 []) { w with asked := [] })))))
  (.opt (client_work_flushes_2 n { w with asked := [] }) fun r_42 =>
  altT r_42 (fun a_43 =>
  .ret (.inr (.inr (.inl a_43)))) fun b_44 =>
  .ret (.inr (.inr (.inr (.inl b_44)))))) fun b_45 =>
 .ret (.inr (.inr (.inr (.inr (.inr (.inr (b_45, { w with asked := [] })))))))))
 (.opt (client_work_free { w with asked := [] }) fun r_46 =>
 altT r_46 (fun a_47 =>
 .ite (!((cache_Valid (TCache.mk 0 0 0 [] [] 0 false false) w.Client.Now) == 2)) (.ret (.inr (.inl (client_work_asks (TAsk.mk 2 0 0 0 [] n 2 []) { w with asked := [] }))))
 (.opt (client_work_flushes_2 n { w with asked := [] }) fun r_48 =>
 altT r_48 (fun a_49 =>
  .ret (.inr (.inl a_49))) fun b_50 =>
 .ret (.inr (.inr (.inl b_50))))) fun b_51 =>
 .ret (.inr (.inr (.inr (.inr (.inr (.inl (b_51, { w with asked := [] }))))))))
def client_work_writes_2 := fun n x w => (client_work_writes_2_t n x w).get
def client_work_syncs_2_t (n : Int) (w : Tclient_work) : Tree (Tclient_work ⊕ (Tclient_work ⊕ ((Tclient_told × Tclient_work) ⊕ (Tclient_told × Tclient_work)))) :=
 .ite w.Client.Out.Is (.ite (w.Client.Out.Ask.Kind == 4) (.ite (w.Client.Out.Ask.File == n) (.ite (decide ((w.Client.Out.Ask.Writes.length : Int) > 0)) (.ret (.inr (.inr (.inl ((client_work_says 4 { w with asked := [] }), { w with asked := [] })))))
  (.opt (client_work_file n { w with asked := [] }) fun r_1 =>
  altT r_1 (fun a_2 =>
   .opt (w.Client.Files[a_2]?) fun y_3 =>
   .ite ((y_3.Dirty.length : Int) == 0) (.ret (.inr (.inr (.inl ((client_work_says_2 0 { w with asked := [] }), { w with asked := [] })))))
   (.opt (client_work_free_2 { w with asked := [] }) fun r_4 =>
   altT r_4 (fun a_5 =>
   .opt (client_work_flushes n { w with asked := [] }) fun r_6 =>
   altT r_6 (fun a_7 =>
    .ret (.inl a_7)) fun b_8 =>
   .ret (.inr (.inl b_8))) fun b_9 =>
   .ret (.inr (.inr (.inl (b_9, { w with asked := [] })))))) fun b_10 =>
  .ret (.inr (.inr (.inr ((client_work_says 0 { w with asked := [] }), { w with asked := [] }))))))
  (.opt (client_work_file n { w with asked := [] }) fun r_11 =>
  altT r_11 (fun a_12 =>
  .opt (w.Client.Files[a_12]?) fun y_13 =>
  .ite ((y_13.Dirty.length : Int) == 0) (.ret (.inr (.inr (.inl ((client_work_says_2 0 { w with asked := [] }), { w with asked := [] })))))
  (.opt (client_work_free_2 { w with asked := [] }) fun r_14 =>
  altT r_14 (fun a_15 =>
   .opt (client_work_flushes n { w with asked := [] }) fun r_16 =>
   altT r_16 (fun a_17 =>
   .ret (.inl a_17)) fun b_18 =>
   .ret (.inr (.inl b_18))) fun b_19 =>
  .ret (.inr (.inr (.inl (b_19, { w with asked := [] })))))) fun b_20 =>
  .ret (.inr (.inr (.inr ((client_work_says 0 { w with asked := [] }), { w with asked := [] }))))))
 (.opt (client_work_file n { w with asked := [] }) fun r_21 =>
 altT r_21 (fun a_22 =>
  .opt (w.Client.Files[a_22]?) fun y_23 =>
  .ite ((y_23.Dirty.length : Int) == 0) (.ret (.inr (.inr (.inl ((client_work_says_2 0 { w with asked := [] }), { w with asked := [] })))))
  (.opt (client_work_free_2 { w with asked := [] }) fun r_24 =>
  altT r_24 (fun a_25 =>
  .opt (client_work_flushes n { w with asked := [] }) fun r_26 =>
  altT r_26 (fun a_27 =>
   .ret (.inl a_27)) fun b_28 =>
  .ret (.inr (.inl b_28))) fun b_29 =>
  .ret (.inr (.inr (.inl (b_29, { w with asked := [] })))))) fun b_30 =>
 .ret (.inr (.inr (.inr ((client_work_says 0 { w with asked := [] }), { w with asked := [] }))))))
 (.opt (client_work_file n { w with asked := [] }) fun r_31 =>
 altT r_31 (fun a_32 =>
 .opt (w.Client.Files[a_32]?) fun y_33 =>
 .ite ((y_33.Dirty.length : Int) == 0) (.ret (.inr (.inr (.inl ((client_work_says_2 0 { w with asked := [] }), { w with asked := [] })))))
 (.opt (client_work_free_2 { w with asked := [] }) fun r_34 =>
 altT r_34 (fun a_35 =>
  .opt (client_work_flushes n { w with asked := [] }) fun r_36 =>
  altT r_36 (fun a_37 =>
  .ret (.inl a_37)) fun b_38 =>
  .ret (.inr (.inl b_38))) fun b_39 =>
 .ret (.inr (.inr (.inl (b_39, { w with asked := [] })))))) fun b_40 =>
 .ret (.inr (.inr (.inr ((client_work_says 0 { w with asked := [] }), { w with asked := [] })))))
def client_work_syncs_2 := fun n w => (client_work_syncs_2_t n w).get
def client_work_drops_2_t (n : Int) (w : Tclient_work) : Tree (Tclient_work ⊕ (Tclient_work ⊕ ((Tclient_told × Tclient_work) ⊕ (Tclient_told × Tclient_work)))) :=
 .opt (client_work_file n { w with asked := [] }) fun r_1 =>
 altT r_1 (fun a_2 =>
 .opt (w.Client.Files[a_2]?) fun y_3 =>
 .ite (y_3.Mode == 0) (.ret (.inr (.inr (.inl ((client_work_says_2 0 { w with asked := [] }), { w with asked := [] })))))
 (.opt (client_work_free_2 { w with asked := [] }) fun r_4 =>
 altT r_4 (fun a_5 =>
  .opt (client_work_gives n { w with asked := [] }) fun r_6 =>
  altT r_6 (fun a_7 =>
  .ret (.inl a_7)) fun b_8 =>
  .ret (.inr (.inl b_8))) fun b_9 =>
 .ret (.inr (.inr (.inl (b_9, { w with asked := [] })))))) fun b_10 =>
 .ret (.inr (.inr (.inr ((client_work_says 0 { w with asked := [] }), { w with asked := [] }))))
def client_work_drops_2 := fun n w => (client_work_drops_2_t n w).get
def client_work_ends_2_t (n : Int) (w : Tclient_work) : Tree (Tclient_work ⊕ (Tclient_work ⊕ (Tclient_told × Tclient_work))) :=
 .opt (client_work_free { w with asked := [] }) fun r_1 =>
 altT r_1 (fun a_2 =>
 .opt (client_work_file n { w with asked := [] }) fun r_3 =>
 altT r_3 (fun a_4 =>
  .opt (w.Client.Files[a_4]?) fun y_5 =>
  .ite (decide ((y_5.Dirty.length : Int) > 0)) (.ret (.inr (.inr ((client_work_says_2 4 { w with asked := [] }), { w with asked := [] }))))
  (.opt ((client_work_asks_2 (TAsk.mk 5 0 0 0 [] n 0 []) { w with asked := [] }).Client.Files[a_4]?) fun y_6 =>
  .opt ((client_work_asks_2 (TAsk.mk 5 0 0 0 [] n 0 []) { w with asked := [] }).Client.Files[a_4]?) fun y_7 =>
  .ret (.inl ({ (client_work_asks_2 (TAsk.mk 5 0 0 0 [] n 0 []) { w with asked := [] }) with Client := { (client_work_asks_2 (TAsk.mk 5 0 0 0 [] n 0 []) { w with asked := [] }).Client with Files := ((client_work_asks_2 (TAsk.mk 5 0 0 0 [] n 0 []) { w with asked := [] }).Client.Files.set a_4 (cache_Reset y_6)) } })))) fun b_8 =>
 .ret (.inr (.inl (client_work_asks (TAsk.mk 5 0 0 0 [] n 0 []) { w with asked := [] })))) fun b_9 =>
 .ret (.inr (.inr (b_9, { w with asked := [] })))
def client_work_ends_2 := fun n w => (client_work_ends_2_t n w).get
def client_work_step_t (s : TStep) (w : Tclient_work) : Tree (Tclient_work ⊕ (Tclient_work ⊕ (Tclient_work ⊕ (Tclient_work ⊕ (Tclient_work ⊕ (Tclient_work ⊕ (Tclient_work ⊕ (Tclient_work ⊕ (Tclient_work ⊕ ((Tclient_told × Tclient_work) ⊕ ((Tclient_told × Tclient_work) ⊕ ((Tclient_told × Tclient_work) ⊕ ((Tclient_told × Tclient_work) ⊕ ((Tclient_told × Tclient_work) ⊕ (Tclient_told × Tclient_work))))))))))))))) :=
 .ite (decide (s.Kind < 3)) (.ret (.inr (.inr (.inr (.inr (.inr (.inr (.inr (.inr (.inr (.inl ((client_work_says 1 { w with asked := [] }), { w with asked := [] }))))))))))))
 (.ite (decide (s.Kind > 8)) (.ret (.inr (.inr (.inr (.inr (.inr (.inr (.inr (.inr (.inr (.inl ((client_work_says 1 { w with asked := [] }), { w with asked := [] }))))))))))))
 (.ite (s.Kind == 3) (.opt (client_work_opens n_ s.Text { w with asked := [] }) fun r_1 =>
 altT r_1 (fun a_2 =>
  .ret (.inr (.inr (.inr (.inr (.inl a_2)))))) fun b_3 =>
 .ret (.inr (.inr (.inr (.inr (.inr (.inr (.inr (.inr (.inr (.inl (b_3.1, { b_3.2 with asked := [] }))))))))))))
 (.ite (decide (s.File < 1)) (.ret (.inr (.inr (.inr (.inr (.inr (.inr (.inr (.inr (.inr (.inr (.inl ((client_work_says 1 { w with asked := [] }), { w with asked := [] })))))))))))))
 (.ite (decide (s.File > (w.Client.Files.length : Int))) (.ret (.inr (.inr (.inr (.inr (.inr (.inr (.inr (.inr (.inr (.inr (.inl ((client_work_says 1 { w with asked := [] }), { w with asked := [] })))))))))))))
 (.ite (s.Kind == 5) (.ite (!(file_May (TWrite.mk s.Off s.Text))) (.ret (.inr (.inr (.inr (.inr (.inr (.inr (.inr (.inr (.inr (.inr (.inl ((client_work_says 1 { w with asked := [] }), { w with asked := [] })))))))))))))
 (.opt (client_work_file s.File { w with asked := [] }) fun r_4 =>
 altT r_4 (fun a_5 =>
  .opt (w.Client.Files[a_5]?) fun y_6 =>
  .ite y_6.Lost (.ite (s.Kind != 8) (.opt (w.Client.Files[a_5]?) fun y_7 =>
   .ret (.inr (.inr (.inr (.inr (.inr (.inr (.inr (.inr (.inr (.inr (.inl ((client_work_says_2 6 (Tclient_work.mk { w.Client with Files := (w.Client.Files.set a_5 { y_7 with Lost := false }) } [])), (Tclient_work.mk { w.Client with Files := (w.Client.Files.set a_5 { y_7 with Lost := false }) } []))))))))))))))
  (.ite (s.Kind == 4) (.opt (client_work_reads n_ s.File { w with asked := [] }) fun r_8 =>
   altT r_8 (fun a_9 =>
   .ret (.inr (.inr (.inr (.inr (.inr (.inl a_9))))))) fun b_10 =>
   altT b_10 (fun a_11 =>
   .ret (.inr (.inr (.inr (.inr (.inr (.inr (.inl a_11)))))))) fun b_12 =>
   altT b_12 (fun a_13 =>
   .ret (.inr (.inr (.inr (.inr (.inr (.inr (.inr (.inr (.inr (.inr (.inl (a_13.1, { a_13.2 with asked := [] }))))))))))))) fun b_14 =>
   .ret (.inr (.inr (.inr (.inr (.inr (.inr (.inr (.inr (.inr (.inr (.inr (.inl (b_14.1, { b_14.2 with asked := [] }))))))))))))))
  (.ite (s.Kind == 5) (.opt (client_work_writes s.File (TWrite.mk s.Off s.Text) { w with asked := [] }) fun r_15 =>
   altT r_15 (fun a_16 =>
   .ret (.inr (.inr (.inr (.inr (.inr (.inr (.inl a_16)))))))) fun b_17 =>
   altT b_17 (fun a_18 =>
   .ret (.inr (.inr (.inr (.inr (.inr (.inr (.inr (.inl a_18))))))))) fun b_19 =>
   altT b_19 (fun a_20 =>
   .ret (.inr (.inr (.inr (.inr (.inr (.inr (.inr (.inr (.inl a_20)))))))))) fun b_21 =>
   altT b_21 (fun a_22 =>
   .ret (.inr (.inr (.inl a_22)))) fun b_23 =>
   altT b_23 (fun a_24 =>
   .ret (.inr (.inr (.inr (.inr (.inr (.inr (.inr (.inr (.inr (.inr (.inr (.inl (a_24.1, { a_24.2 with asked := [] })))))))))))))) fun b_25 =>
   altT b_25 (fun a_26 =>
   .ret (.inr (.inr (.inr (.inr (.inr (.inr (.inr (.inr (.inr (.inr (.inr (.inr (.inl (a_26.1, { a_26.2 with asked := [] }))))))))))))))) fun b_27 =>
   .ret (.inr (.inr (.inr (.inr (.inr (.inr (.inr (.inr (.inr (.inr (.inr (.inr (.inr (.inl (b_27.1, { b_27.2 with asked := [] }))))))))))))))))
  (.ite (s.Kind == 6) (.opt (client_work_syncs s.File { w with asked := [] }) fun r_28 =>
   altT r_28 (fun a_29 =>
   .ret (.inr (.inr (.inr (.inr (.inr (.inr (.inl a_29)))))))) fun b_30 =>
   altT b_30 (fun a_31 =>
   .ret (.inr (.inr (.inr (.inr (.inr (.inr (.inr (.inl a_31))))))))) fun b_32 =>
   altT b_32 (fun a_33 =>
   .ret (.inr (.inr (.inr (.inr (.inr (.inr (.inr (.inr (.inr (.inr (.inr (.inl (a_33.1, { a_33.2 with asked := [] })))))))))))))) fun b_34 =>
   .ret (.inr (.inr (.inr (.inr (.inr (.inr (.inr (.inr (.inr (.inr (.inr (.inr (.inl (b_34.1, { b_34.2 with asked := [] })))))))))))))))
  (.ite (s.Kind == 7) (.opt (client_work_drops s.File { w with asked := [] }) fun r_35 =>
   altT r_35 (fun a_36 =>
   .ret (.inr (.inr (.inr (.inr (.inr (.inl a_36))))))) fun b_37 =>
   altT b_37 (fun a_38 =>
   .ret (.inr (.inr (.inr (.inr (.inr (.inr (.inl a_38)))))))) fun b_39 =>
   altT b_39 (fun a_40 =>
   .ret (.inr (.inr (.inr (.inr (.inr (.inr (.inr (.inr (.inr (.inr (.inl (a_40.1, { a_40.2 with asked := [] }))))))))))))) fun b_41 =>
   .ret (.inr (.inr (.inr (.inr (.inr (.inr (.inr (.inr (.inr (.inr (.inr (.inl (b_41.1, { b_41.2 with asked := [] }))))))))))))))
  (.ite (s.Kind == 8) (.opt (client_work_ends s.File { w with asked := [] }) fun r_42 =>
   altT r_42 (fun a_43 =>
   .ret (.inr (.inr (.inr (.inr (.inr (.inl a_43))))))) fun b_44 =>
   altT b_44 (fun a_45 =>
   .ret (.inr (.inr (.inr (.inr (.inr (.inr (.inl a_45)))))))) fun b_46 =>
   .ret (.inr (.inr (.inr (.inr (.inr (.inr (.inr (.inr (.inr (.inr (.inl (b_46.1, { b_46.2 with asked := [] })))))))))))))
  (.ret (.inl ({ w with asked := [] })))))))))
  (.ite (s.Kind == 4) (.opt (client_work_reads n_ s.File { w with asked := [] }) fun r_47 =>
  altT r_47 (fun a_48 =>
   .ret (.inr (.inr (.inr (.inr (.inr (.inl a_48))))))) fun b_49 =>
  altT b_49 (fun a_50 =>
   .ret (.inr (.inr (.inr (.inr (.inr (.inr (.inl a_50)))))))) fun b_51 =>
  altT b_51 (fun a_52 =>
   .ret (.inr (.inr (.inr (.inr (.inr (.inr (.inr (.inr (.inr (.inr (.inl (a_52.1, { a_52.2 with asked := [] }))))))))))))) fun b_53 =>
  .ret (.inr (.inr (.inr (.inr (.inr (.inr (.inr (.inr (.inr (.inr (.inr (.inl (b_53.1, { b_53.2 with asked := [] }))))))))))))))
  (.ite (s.Kind == 5) (.opt (client_work_writes s.File (TWrite.mk s.Off s.Text) { w with asked := [] }) fun r_54 =>
  altT r_54 (fun a_55 =>
   .ret (.inr (.inr (.inr (.inr (.inr (.inr (.inl a_55)))))))) fun b_56 =>
  altT b_56 (fun a_57 =>
   .ret (.inr (.inr (.inr (.inr (.inr (.inr (.inr (.inl a_57))))))))) fun b_58 =>
  altT b_58 (fun a_59 =>
   .ret (.inr (.inr (.inr (.inr (.inr (.inr (.inr (.inr (.inl a_59)))))))))) fun b_60 =>
  altT b_60 (fun a_61 =>
   .ret (.inr (.inr (.inl a_61)))) fun b_62 =>
  altT b_62 (fun a_63 =>
   .ret (.inr (.inr (.inr (.inr (.inr (.inr (.inr (.inr (.inr (.inr (.inr (.inl (a_63.1, { a_63.2 with asked := [] })))))))))))))) fun b_64 =>
  altT b_64 (fun a_65 =>
   .ret (.inr (.inr (.inr (.inr (.inr (.inr (.inr (.inr (.inr (.inr (.inr (.inr (.inl (a_65.1, { a_65.2 with asked := [] }))))))))))))))) fun b_66 =>
  .ret (.inr (.inr (.inr (.inr (.inr (.inr (.inr (.inr (.inr (.inr (.inr (.inr (.inr (.inl (b_66.1, { b_66.2 with asked := [] }))))))))))))))))
  (.ite (s.Kind == 6) (.opt (client_work_syncs s.File { w with asked := [] }) fun r_67 =>
  altT r_67 (fun a_68 =>
   .ret (.inr (.inr (.inr (.inr (.inr (.inr (.inl a_68)))))))) fun b_69 =>
  altT b_69 (fun a_70 =>
   .ret (.inr (.inr (.inr (.inr (.inr (.inr (.inr (.inl a_70))))))))) fun b_71 =>
  altT b_71 (fun a_72 =>
   .ret (.inr (.inr (.inr (.inr (.inr (.inr (.inr (.inr (.inr (.inr (.inr (.inl (a_72.1, { a_72.2 with asked := [] })))))))))))))) fun b_73 =>
  .ret (.inr (.inr (.inr (.inr (.inr (.inr (.inr (.inr (.inr (.inr (.inr (.inr (.inl (b_73.1, { b_73.2 with asked := [] })))))))))))))))
  (.ite (s.Kind == 7) (.opt (client_work_drops s.File { w with asked := [] }) fun r_74 =>
  altT r_74 (fun a_75 =>
   .ret (.inr (.inr (.inr (.inr (.inr (.inl a_75))))))) fun b_76 =>
  altT b_76 (fun a_77 =>
   .ret (.inr (.inr (.inr (.inr (.inr (.inr (.inl a_77)))))))) fun b_78 =>
  altT b_78 (fun a_79 =>
   .ret (.inr (.inr (.inr (.inr (.inr (.inr (.inr (.inr (.inr (.inr (.inl (a_79.1, { a_79.2 with asked := [] }))))))))))))) fun b_80 =>
  .ret (.inr (.inr (.inr (.inr (.inr (.inr (.inr (.inr (.inr (.inr (.inr (.inl (b_80.1, { b_80.2 with asked := [] }))))))))))))))
  (.ite (s.Kind == 8) (.opt (client_work_ends s.File { w with asked := [] }) fun r_81 =>
  altT r_81 (fun a_82 =>
   .ret (.inr (.inr (.inr (.inr (.inr (.inl a_82))))))) fun b_83 =>
  altT b_83 (fun a_84 =>
   .ret (.inr (.inr (.inr (.inr (.inr (.inr (.inl a_84)))))))) fun b_85 =>
  .ret (.inr (.inr (.inr (.inr (.inr (.inr (.inr (.inr (.inr (.inr (.inl (b_85.1, { b_85.2 with asked := [] })))))))))))))
  (.ret (.inl ({ w with asked := [] }))))))))) fun b_86 =>
 .ite (s.Kind == 4) (.opt (client_work_reads_2 n_ s.File { w with asked := [] }) fun r_87 =>
  altT r_87 (fun a_88 =>
  .ret (.inr (.inr (.inr (.inr (.inr (.inr (.inl a_88)))))))) fun b_89 =>
  altT b_89 (fun a_90 =>
  .ret (.inr (.inr (.inr (.inr (.inr (.inr (.inr (.inl a_90))))))))) fun b_91 =>
  altT b_91 (fun a_92 =>
  .ret (.inr (.inr (.inr (.inr (.inr (.inr (.inr (.inr (.inr (.inr (.inr (.inl (a_92.1, { a_92.2 with asked := [] })))))))))))))) fun b_93 =>
  .ret (.inr (.inr (.inr (.inr (.inr (.inr (.inr (.inr (.inr (.inr (.inr (.inr (.inl (b_93.1, { b_93.2 with asked := [] })))))))))))))))
 (.ite (s.Kind == 5) (.opt (client_work_writes_2 s.File (TWrite.mk s.Off s.Text) { w with asked := [] }) fun r_94 =>
  altT r_94 (fun a_95 =>
  .ret (.inr (.inr (.inr (.inr (.inr (.inr (.inr (.inl a_95))))))))) fun b_96 =>
  altT b_96 (fun a_97 =>
  .ret (.inr (.inr (.inr (.inr (.inr (.inr (.inr (.inr (.inl a_97)))))))))) fun b_98 =>
  altT b_98 (fun a_99 =>
  .ret (.inr (.inr (.inl a_99)))) fun b_100 =>
  altT b_100 (fun a_101 =>
  .ret (.inr (.inr (.inr (.inl a_101))))) fun b_102 =>
  altT b_102 (fun a_103 =>
  .ret (.inr (.inr (.inr (.inr (.inr (.inr (.inr (.inr (.inr (.inr (.inr (.inr (.inl (a_103.1, { a_103.2 with asked := [] }))))))))))))))) fun b_104 =>
  altT b_104 (fun a_105 =>
  .ret (.inr (.inr (.inr (.inr (.inr (.inr (.inr (.inr (.inr (.inr (.inr (.inr (.inr (.inl (a_105.1, { a_105.2 with asked := [] })))))))))))))))) fun b_106 =>
  .ret (.inr (.inr (.inr (.inr (.inr (.inr (.inr (.inr (.inr (.inr (.inr (.inr (.inr (.inr (b_106.1, { b_106.2 with asked := [] }))))))))))))))))
 (.ite (s.Kind == 6) (.opt (client_work_syncs_2 s.File { w with asked := [] }) fun r_107 =>
  altT r_107 (fun a_108 =>
  .ret (.inr (.inr (.inr (.inr (.inr (.inr (.inr (.inl a_108))))))))) fun b_109 =>
  altT b_109 (fun a_110 =>
  .ret (.inr (.inr (.inr (.inr (.inr (.inr (.inr (.inr (.inl a_110)))))))))) fun b_111 =>
  altT b_111 (fun a_112 =>
  .ret (.inr (.inr (.inr (.inr (.inr (.inr (.inr (.inr (.inr (.inr (.inr (.inr (.inl (a_112.1, { a_112.2 with asked := [] }))))))))))))))) fun b_113 =>
  .ret (.inr (.inr (.inr (.inr (.inr (.inr (.inr (.inr (.inr (.inr (.inr (.inr (.inr (.inl (b_113.1, { b_113.2 with asked := [] }))))))))))))))))
 (.ite (s.Kind == 7) (.opt (client_work_drops_2 s.File { w with asked := [] }) fun r_114 =>
  altT r_114 (fun a_115 =>
  .ret (.inr (.inr (.inr (.inr (.inr (.inr (.inl a_115)))))))) fun b_116 =>
  altT b_116 (fun a_117 =>
  .ret (.inr (.inr (.inr (.inr (.inr (.inr (.inr (.inl a_117))))))))) fun b_118 =>
  altT b_118 (fun a_119 =>
  .ret (.inr (.inr (.inr (.inr (.inr (.inr (.inr (.inr (.inr (.inr (.inr (.inl (a_119.1, { a_119.2 with asked := [] })))))))))))))) fun b_120 =>
  .ret (.inr (.inr (.inr (.inr (.inr (.inr (.inr (.inr (.inr (.inr (.inr (.inr (.inl (b_120.1, { b_120.2 with asked := [] })))))))))))))))
 (.ite (s.Kind == 8) (.opt (client_work_ends_2 s.File { w with asked := [] }) fun r_121 =>
  altT r_121 (fun a_122 =>
  .ret (.inr (.inr (.inr (.inr (.inr (.inr (.inl a_122)))))))) fun b_123 =>
  altT b_123 (fun a_124 =>
  .ret (.inr (.inr (.inr (.inr (.inr (.inr (.inr (.inl a_124))))))))) fun b_125 =>
  .ret (.inr (.inr (.inr (.inr (.inr (.inr (.inr (.inr (.inr (.inr (.inr (.inl (b_125.1, { b_125.2 with asked := [] }))))))))))))))
 (.ret (.inr (.inl ({ w with asked := [] }))))))))))
 (.opt (client_work_file s.File { w with asked := [] }) fun r_126 =>
 altT r_126 (fun a_127 =>
 .opt (w.Client.Files[a_127]?) fun y_128 =>
 .ite y_128.Lost (.ite (s.Kind != 8) (.opt (w.Client.Files[a_127]?) fun y_129 =>
  .ret (.inr (.inr (.inr (.inr (.inr (.inr (.inr (.inr (.inr (.inr (.inl ((client_work_says_2 6 (Tclient_work.mk { w.Client with Files := (w.Client.Files.set a_127 { y_129 with Lost := false }) } [])), (Tclient_work.mk { w.Client with Files := (w.Client.Files.set a_127 { y_129 with Lost := false }) } []))))))))))))))
  (.ite (s.Kind == 4) (.opt (client_work_reads n_ s.File { w with asked := [] }) fun r_130 =>
  altT r_130 (fun a_131 =>
   .ret (.inr (.inr (.inr (.inr (.inr (.inl a_131))))))) fun b_132 =>
  altT b_132 (fun a_133 =>
   .ret (.inr (.inr (.inr (.inr (.inr (.inr (.inl a_133)))))))) fun b_134 =>
  altT b_134 (fun a_135 =>
   .ret (.inr (.inr (.inr (.inr (.inr (.inr (.inr (.inr (.inr (.inr (.inl (a_135.1, { a_135.2 with asked := [] }))))))))))))) fun b_136 =>
  .ret (.inr (.inr (.inr (.inr (.inr (.inr (.inr (.inr (.inr (.inr (.inr (.inl (b_136.1, { b_136.2 with asked := [] }))))))))))))))
  (.ite (s.Kind == 5) (.opt (client_work_writes s.File (TWrite.mk s.Off s.Text) { w with asked := [] }) fun r_137 =>
  altT r_137 (fun a_138 =>
   .ret (.inr (.inr (.inr (.inr (.inr (.inr (.inl a_138)))))))) fun b_139 =>
  altT b_139 (fun a_140 =>
   .ret (.inr (.inr (.inr (.inr (.inr (.inr (.inr (.inl a_140))))))))) fun b_141 =>
  altT b_141 (fun a_142 =>
   .ret (.inr (.inr (.inr (.inr (.inr (.inr (.inr (.inr (.inl a_142)))))))))) fun b_143 =>
  altT b_143 (fun a_144 =>
   .ret (.inr (.inr (.inl a_144)))) fun b_145 =>
  altT b_145 (fun a_146 =>
   .ret (.inr (.inr (.inr (.inr (.inr (.inr (.inr (.inr (.inr (.inr (.inr (.inl (a_146.1, { a_146.2 with asked := [] })))))))))))))) fun b_147 =>
  altT b_147 (fun a_148 =>
   .ret (.inr (.inr (.inr (.inr (.inr (.inr (.inr (.inr (.inr (.inr (.inr (.inr (.inl (a_148.1, { a_148.2 with asked := [] }))))))))))))))) fun b_149 =>
  .ret (.inr (.inr (.inr (.inr (.inr (.inr (.inr (.inr (.inr (.inr (.inr (.inr (.inr (.inl (b_149.1, { b_149.2 with asked := [] }))))))))))))))))
  (.ite (s.Kind == 6) (.opt (client_work_syncs s.File { w with asked := [] }) fun r_150 =>
  altT r_150 (fun a_151 =>
   .ret (.inr (.inr (.inr (.inr (.inr (.inr (.inl a_151)))))))) fun b_152 =>
  altT b_152 (fun a_153 =>
   .ret (.inr (.inr (.inr (.inr (.inr (.inr (.inr (.inl a_153))))))))) fun b_154 =>
  altT b_154 (fun a_155 =>
   .ret (.inr (.inr (.inr (.inr (.inr (.inr (.inr (.inr (.inr (.inr (.inr (.inl (a_155.1, { a_155.2 with asked := [] })))))))))))))) fun b_156 =>
  .ret (.inr (.inr (.inr (.inr (.inr (.inr (.inr (.inr (.inr (.inr (.inr (.inr (.inl (b_156.1, { b_156.2 with asked := [] })))))))))))))))
  (.ite (s.Kind == 7) (.opt (client_work_drops s.File { w with asked := [] }) fun r_157 =>
  altT r_157 (fun a_158 =>
   .ret (.inr (.inr (.inr (.inr (.inr (.inl a_158))))))) fun b_159 =>
  altT b_159 (fun a_160 =>
   .ret (.inr (.inr (.inr (.inr (.inr (.inr (.inl a_160)))))))) fun b_161 =>
  altT b_161 (fun a_162 =>
   .ret (.inr (.inr (.inr (.inr (.inr (.inr (.inr (.inr (.inr (.inr (.inl (a_162.1, { a_162.2 with asked := [] }))))))))))))) fun b_163 =>
  .ret (.inr (.inr (.inr (.inr (.inr (.inr (.inr (.inr (.inr (.inr (.inr (.inl (b_163.1, { b_163.2 with asked := [] }))))))))))))))
  (.ite (s.Kind == 8) (.opt (client_work_ends s.File { w with asked := [] }) fun r_164 =>
  altT r_164 (fun a_165 =>
   .ret (.inr (.inr (.inr (.inr (.inr (.inl a_165))))))) fun b_166 =>
  altT b_166 (fun a_167 =>
   .ret (.inr (.inr (.inr (.inr (.inr (.inr (.inl a_167)))))))) fun b_168 =>
  .ret (.inr (.inr (.inr (.inr (.inr (.inr (.inr (.inr (.inr (.inr (.inl (b_168.1, { b_168.2 with asked := [] })))))))))))))
  (.ret (.inl ({ w with asked := [] })))))))))
 (.ite (s.Kind == 4) (.opt (client_work_reads n_ s.File { w with asked := [] }) fun r_169 =>
  altT r_169 (fun a_170 =>
  .ret (.inr (.inr (.inr (.inr (.inr (.inl a_170))))))) fun b_171 =>
  altT b_171 (fun a_172 =>
  .ret (.inr (.inr (.inr (.inr (.inr (.inr (.inl a_172)))))))) fun b_173 =>
  altT b_173 (fun a_174 =>
  .ret (.inr (.inr (.inr (.inr (.inr (.inr (.inr (.inr (.inr (.inr (.inl (a_174.1, { a_174.2 with asked := [] }))))))))))))) fun b_175 =>
  .ret (.inr (.inr (.inr (.inr (.inr (.inr (.inr (.inr (.inr (.inr (.inr (.inl (b_175.1, { b_175.2 with asked := [] }))))))))))))))
 (.ite (s.Kind == 5) (.opt (client_work_writes s.File (TWrite.mk s.Off s.Text) { w with asked := [] }) fun r_176 =>
  altT r_176 (fun a_177 =>
  .ret (.inr (.inr (.inr (.inr (.inr (.inr (.inl a_177)))))))) fun b_178 =>
  altT b_178 (fun a_179 =>
  .ret (.inr (.inr (.inr (.inr (.inr (.inr (.inr (.inl a_179))))))))) fun b_180 =>
  altT b_180 (fun a_181 =>
  .ret (.inr (.inr (.inr (.inr (.inr (.inr (.inr (.inr (.inl a_181)))))))))) fun b_182 =>
  altT b_182 (fun a_183 =>
  .ret (.inr (.inr (.inl a_183)))) fun b_184 =>
  altT b_184 (fun a_185 =>
  .ret (.inr (.inr (.inr (.inr (.inr (.inr (.inr (.inr (.inr (.inr (.inr (.inl (a_185.1, { a_185.2 with asked := [] })))))))))))))) fun b_186 =>
  altT b_186 (fun a_187 =>
  .ret (.inr (.inr (.inr (.inr (.inr (.inr (.inr (.inr (.inr (.inr (.inr (.inr (.inl (a_187.1, { a_187.2 with asked := [] }))))))))))))))) fun b_188 =>
  .ret (.inr (.inr (.inr (.inr (.inr (.inr (.inr (.inr (.inr (.inr (.inr (.inr (.inr (.inl (b_188.1, { b_188.2 with asked := [] }))))))))))))))))
 (.ite (s.Kind == 6) (.opt (client_work_syncs s.File { w with asked := [] }) fun r_189 =>
  altT r_189 (fun a_190 =>
  .ret (.inr (.inr (.inr (.inr (.inr (.inr (.inl a_190)))))))) fun b_191 =>
  altT b_191 (fun a_192 =>
  .ret (.inr (.inr (.inr (.inr (.inr (.inr (.inr (.inl a_192))))))))) fun b_193 =>
  altT b_193 (fun a_194 =>
  .ret (.inr (.inr (.inr (.inr (.inr (.inr (.inr (.inr (.inr (.inr (.inr (.inl (a_194.1, { a_194.2 with asked := [] })))))))))))))) fun b_195 =>
  .ret (.inr (.inr (.inr (.inr (.inr (.inr (.inr (.inr (.inr (.inr (.inr (.inr (.inl (b_195.1, { b_195.2 with asked := [] })))))))))))))))
 (.ite (s.Kind == 7) (.opt (client_work_drops s.File { w with asked := [] }) fun r_196 =>
  altT r_196 (fun a_197 =>
  .ret (.inr (.inr (.inr (.inr (.inr (.inl a_197))))))) fun b_198 =>
  altT b_198 (fun a_199 =>
  .ret (.inr (.inr (.inr (.inr (.inr (.inr (.inl a_199)))))))) fun b_200 =>
  altT b_200 (fun a_201 =>
  .ret (.inr (.inr (.inr (.inr (.inr (.inr (.inr (.inr (.inr (.inr (.inl (a_201.1, { a_201.2 with asked := [] }))))))))))))) fun b_202 =>
  .ret (.inr (.inr (.inr (.inr (.inr (.inr (.inr (.inr (.inr (.inr (.inr (.inl (b_202.1, { b_202.2 with asked := [] }))))))))))))))
 (.ite (s.Kind == 8) (.opt (client_work_ends s.File { w with asked := [] }) fun r_203 =>
  altT r_203 (fun a_204 =>
  .ret (.inr (.inr (.inr (.inr (.inr (.inl a_204))))))) fun b_205 =>
  altT b_205 (fun a_206 =>
  .ret (.inr (.inr (.inr (.inr (.inr (.inr (.inl a_206)))))))) fun b_207 =>
  .ret (.inr (.inr (.inr (.inr (.inr (.inr (.inr (.inr (.inr (.inr (.inl (b_207.1, { b_207.2 with asked := [] })))))))))))))
 (.ret (.inl ({ w with asked := [] }))))))))) fun b_208 =>
 .ite (s.Kind == 4) (.opt (client_work_reads_2 n_ s.File { w with asked := [] }) fun r_209 =>
 altT r_209 (fun a_210 =>
  .ret (.inr (.inr (.inr (.inr (.inr (.inr (.inl a_210)))))))) fun b_211 =>
 altT b_211 (fun a_212 =>
  .ret (.inr (.inr (.inr (.inr (.inr (.inr (.inr (.inl a_212))))))))) fun b_213 =>
 altT b_213 (fun a_214 =>
  .ret (.inr (.inr (.inr (.inr (.inr (.inr (.inr (.inr (.inr (.inr (.inr (.inl (a_214.1, { a_214.2 with asked := [] })))))))))))))) fun b_215 =>
 .ret (.inr (.inr (.inr (.inr (.inr (.inr (.inr (.inr (.inr (.inr (.inr (.inr (.inl (b_215.1, { b_215.2 with asked := [] })))))))))))))))
 (.ite (s.Kind == 5) (.opt (client_work_writes_2 s.File (TWrite.mk s.Off s.Text) { w with asked := [] }) fun r_216 =>
 altT r_216 (fun a_217 =>
  .ret (.inr (.inr (.inr (.inr (.inr (.inr (.inr (.inl a_217))))))))) fun b_218 =>
 altT b_218 (fun a_219 =>
  .ret (.inr (.inr (.inr (.inr (.inr (.inr (.inr (.inr (.inl a_219)))))))))) fun b_220 =>
 altT b_220 (fun a_221 =>
  .ret (.inr (.inr (.inl a_221)))) fun b_222 =>
 altT b_222 (fun a_223 =>
  .ret (.inr (.inr (.inr (.inl a_223))))) fun b_224 =>
 altT b_224 (fun a_225 =>
  .ret (.inr (.inr (.inr (.inr (.inr (.inr (.inr (.inr (.inr (.inr (.inr (.inr (.inl (a_225.1, { a_225.2 with asked := [] }))))))))))))))) fun b_226 =>
 altT b_226 (fun a_227 =>
  .ret (.inr (.inr (.inr (.inr (.inr (.inr (.inr (.inr (.inr (.inr (.inr (.inr (.inr (.inl (a_227.1, { a_227.2 with asked := [] })))))))))))))))) fun b_228 =>
 .ret (.inr (.inr (.inr (.inr (.inr (.inr (.inr (.inr (.inr (.inr (.inr (.inr (.inr (.inr (b_228.1, { b_228.2 with asked := [] }))))))))))))))))
 (.ite (s.Kind == 6) (.opt (client_work_syncs_2 s.File { w with asked := [] }) fun r_229 =>
 altT r_229 (fun a_230 =>
  .ret (.inr (.inr (.inr (.inr (.inr (.inr (.inr (.inl a_230))))))))) fun b_231 =>
 altT b_231 (fun a_232 =>
  .ret (.inr (.inr (.inr (.inr (.inr (.inr (.inr (.inr (.inl a_232)))))))))) fun b_233 =>
 altT b_233 (fun a_234 =>
  .ret (.inr (.inr (.inr (.inr (.inr (.inr (.inr (.inr (.inr (.inr (.inr (.inr (.inl (a_234.1, { a_234.2 with asked := [] }))))))))))))))) fun b_235 =>
 .ret (.inr (.inr (.inr (.inr (.inr (.inr (.inr (.inr (.inr (.inr (.inr (.inr (.inr (.inl (b_235.1, { b_235.2 with asked := [] }))))))))))))))))
 (.ite (s.Kind == 7) (.opt (client_work_drops_2 s.File { w with asked := [] }) fun r_236 =>
 altT r_236 (fun a_237 =>
  .ret (.inr (.inr (.inr (.inr (.inr (.inr (.inl a_237)))))))) fun b_238 =>
 altT b_238 (fun a_239 =>
  .ret (.inr (.inr (.inr (.inr (.inr (.inr (.inr (.inl a_239))))))))) fun b_240 =>
 altT b_240 (fun a_241 =>
  .ret (.inr (.inr (.inr (.inr (.inr (.inr (.inr (.inr (.inr (.inr (.inr (.inl (a_241.1, { a_241.2 with asked := [] })))))))))))))) fun b_242 =>
 .ret (.inr (.inr (.inr (.inr (.inr (.inr (.inr (.inr (.inr (.inr (.inr (.inr (.inl (b_242.1, { b_242.2 with asked := [] })))))))))))))))
 (.ite (s.Kind == 8) (.opt (client_work_ends_2 s.File { w with asked := [] }) fun r_243 =>
 altT r_243 (fun a_244 =>
  .ret (.inr (.inr (.inr (.inr (.inr (.inr (.inl a_244)))))))) fun b_245 =>
 altT b_245 (fun a_246 =>
  .ret (.inr (.inr (.inr (.inr (.inr (.inr (.inr (.inl a_246))))))))) fun b_247 =>
 .ret (.inr (.inr (.inr (.inr (.inr (.inr (.inr (.inr (.inr (.inr (.inr (.inl (b_247.1, { b_247.2 with asked := [] }))))))))))))))
 (.ret (.inr (.inl ({ w with asked := [] }))))))))))))))
def client_work_step := fun s w => (client_work_step_t n_ s w).get
def client_work_does_t (s : TStep) (w : Tclient_work) : Tree ((TAns × Tclient_work) ⊕ ((TAns × Tclient_work) ⊕ ((TAns × Tclient_work) ⊕ ((TAns × Tclient_work) ⊕ ((TAns × Tclient_work) ⊕ ((TAns × Tclient_work) ⊕ (Tclient_work ⊕ (Tclient_work ⊕ (Tclient_work ⊕ (Tclient_work ⊕ (Tclient_work ⊕ (Tclient_work ⊕ Tclient_work)))))))))))) :=
 .opt (client_work_step n_ s { w with asked := [] }) fun r_1 =>
 altT r_1 (fun a_2 =>
 .ret (.inr (.inl ((TAns.mk 5 0 []), { a_2 with asked := [] })))) fun b_3 =>
 altT b_3 (fun a_4 =>
 .ret (.inr (.inr (.inl ((TAns.mk 5 0 []), { a_4 with asked := [] }))))) fun b_5 =>
 altT b_5 (fun a_6 =>
 .ret (.inr (.inr (.inr (.inr (.inr (.inr (.inr (.inr (.inl a_6)))))))))) fun b_7 =>
 altT b_7 (fun a_8 =>
 .ret (.inr (.inr (.inr (.inr (.inr (.inr (.inr (.inr (.inr (.inl a_8))))))))))) fun b_9 =>
 altT b_9 (fun a_10 =>
 .ret (.inr (.inr (.inr (.inr (.inr (.inr (.inr (.inr (.inr (.inr (.inl a_10)))))))))))) fun b_11 =>
 altT b_11 (fun a_12 =>
 .ret (.inr (.inr (.inr (.inr (.inr (.inr (.inr (.inr (.inr (.inr (.inr (.inl a_12))))))))))))) fun b_13 =>
 altT b_13 (fun a_14 =>
 .ret (.inr (.inr (.inr (.inr (.inr (.inr (.inr (.inr (.inr (.inr (.inr (.inr a_14))))))))))))) fun b_15 =>
 altT b_15 (fun a_16 =>
 .ret (.inr (.inr (.inr (.inr (.inr (.inr (.inl a_16)))))))) fun b_17 =>
 altT b_17 (fun a_18 =>
 .ret (.inr (.inr (.inr (.inr (.inr (.inr (.inr (.inl a_18))))))))) fun b_19 =>
 altT b_19 (fun a_20 =>
 .ret (.inl (a_20.1.a, { a_20.2 with asked := [] }))) fun b_21 =>
 altT b_21 (fun a_22 =>
 .ret (.inr (.inl (a_22.1.a, { a_22.2 with asked := [] })))) fun b_23 =>
 altT b_23 (fun a_24 =>
 .ret (.inr (.inr (.inl (a_24.1.a, { a_24.2 with asked := [] }))))) fun b_25 =>
 altT b_25 (fun a_26 =>
 .ret (.inr (.inr (.inr (.inl (a_26.1.a, { a_26.2 with asked := [] })))))) fun b_27 =>
 altT b_27 (fun a_28 =>
 .ret (.inr (.inr (.inr (.inr (.inl (a_28.1.a, { a_28.2 with asked := [] }))))))) fun b_29 =>
 .ret (.inr (.inr (.inr (.inr (.inr (.inl (b_29.1.a, { b_29.2 with asked := [] })))))))
def client_work_does := fun s w => (client_work_does_t n_ s w).get
def client_Do_t (c : TClient) (s : TStep) : Tree (TClient × TAns × List TAsk) :=
 .opt (client_of n_ c) fun r_1 =>
 .opt (client_work_does n_ s { r_1 with asked := [] }) fun r_2 =>
 altT r_2 (fun a_3 =>
 .ret (a_3.2.Client, a_3.1, [])) fun b_4 =>
 altT b_4 (fun a_5 =>
 .ret (a_5.2.Client, a_5.1, [])) fun b_6 =>
 altT b_6 (fun a_7 =>
 .ret (a_7.2.Client, a_7.1, [])) fun b_8 =>
 altT b_8 (fun a_9 =>
 .ret (a_9.2.Client, a_9.1, [])) fun b_10 =>
 altT b_10 (fun a_11 =>
 .ret (a_11.2.Client, a_11.1, [])) fun b_12 =>
 altT b_12 (fun a_13 =>
 .ret (a_13.2.Client, a_13.1, [])) fun b_14 =>
 altT b_14 (fun a_15 =>
 .ret (a_15.Client, (TAns.mk 5 0 []), a_15.asked)) fun b_16 =>
 altT b_16 (fun a_17 =>
 .ret (a_17.Client, (TAns.mk 5 0 []), a_17.asked)) fun b_18 =>
 altT b_18 (fun a_19 =>
 .ret (a_19.Client, (TAns.mk 5 0 []), a_19.asked)) fun b_20 =>
 altT b_20 (fun a_21 =>
 .ret (a_21.Client, (TAns.mk 5 0 []), a_21.asked)) fun b_22 =>
 altT b_22 (fun a_23 =>
 .ret (a_23.Client, (TAns.mk 5 0 []), a_23.asked)) fun b_24 =>
 altT b_24 (fun a_25 =>
 .ret (a_25.Client, (TAns.mk 5 0 []), a_25.asked)) fun b_26 =>
 .ret (b_26.Client, (TAns.mk 5 0 []), b_26.asked)
def client_Do := fun c s => (client_Do_t n_ c s).get
def ref13_num_t (n : Int) (least : Int) : TT Bool :=
 .ite (decide (n ≥ least)) (.ret (decide (n ≤ 1073741824)))
 (.ret false)
def ref13_num := fun n least => (ref13_num_t n least).val
def ref13_MayTell_t (t : TTell) : TT Bool :=
 .ite (decide (t.Kind < 1)) (.ret false)
 (.ite (decide (t.Kind > 3)) (.ret false)
 (.ite (decide (t.To < 1)) (.ret false)
 (.ite (decide (t.To > 3)) (.ret false)
 (.ite (!(ref13_num t.Epoch 0)) (.ret false)
 (.ite (t.Kind == 1) (.ite (ref13_num t.Seq 1) (.ite (decide (t.Err ≥ 0)) (.ite (decide (t.Err ≤ 7)) (.ite (decide (t.File ≥ 0)) (.ite (decide (t.File ≤ 6)) (.ite (decide (t.Mode ≥ 0)) (.ite (decide (t.Mode ≤ 2)) (.ite (ref13_num t.Ver 0) (.ret (decide ((t.Body.length : Int) ≤ 24)))
     (.ret false))
    (.ret false))
    (.ret false))
   (.ret false))
   (.ret false))
  (.ret false))
  (.ret false))
 (.ret false))
 (.ite (t.Kind == 2) (.ite (decide (t.File ≥ 1)) (.ite (decide (t.File ≤ 6)) (.ret (TTell.eqb t (TTell.mk t.Kind t.To t.Epoch 0 0 t.File 0 0 [])))
  (.ret false))
 (.ret false))
 (.ret (TTell.eqb t (TTell.mk t.Kind t.To t.Epoch 0 0 0 0 0 [])))))))))
def ref13_MayTell := fun t => (ref13_MayTell_t t).val
def ref1_Put_s0t (v : Int) (v_ : Int × List UInt8) : Tree ((Int × List UInt8) ⊕ (List UInt8)) :=
 .ite (decide (v_.1 ≥ 0)) (.ite (decide ((wi64 (8 * v_.1)) < 0)) .fail
 (.ite (decide ((v_.2.length + 1) ≤ lim)) (.ret (.inl ((wi64 (v_.1 - 1)), (v_.2 ++ [(b8 (wu8 (shrI .i64 v (wi64 (8 * v_.1)))))])))) .fail))
 (.ret (.inr v_.2))
def ref1_Put_s0 := fun v v_ => (ref1_Put_s0t v v_).get
def ref1_Put_l0 := fun v i out => iter (ref1_Put_s0 v) n_ (i, out)
def ref1_Put_t (b : List UInt8) (v : Int) (n : Int) : Tree (List UInt8) :=
 .ite (decide (b.length ≤ lim)) (.ite (decide (n < 1)) (.ret b)
 (.ite (decide (n > 8)) (.ret b)
 (.opt (ref1_Put_l0 n_ v (wi64 (n - 1)) b) fun r_1 =>
 .ret r_1))) .fail
def ref1_Put := fun b v n => (ref1_Put_t n_ b v n).get
def ref1_Text_t (b : List UInt8) (s : List UInt8) : Tree (List UInt8) :=
 .ite (decide (b.length ≤ lim)) (.ite (decide ((s.length : Int) > 255)) (.ret b)
 (.ite (decide ((b.length + 1) ≤ lim)) (.ite (decide (((b ++ [(b8 (wu8 (s.length : Int)))]).length + s.length) ≤ lim)) (.ret ((b ++ [(b8 (wu8 (s.length : Int)))]) ++ s)) .fail) .fail)) .fail
def ref1_Text := fun b s => (ref1_Text_t b s).get
def ref1_Crc_s0t (b : List UInt8) (i : Int) (v_ : Int × Int) : Tree ((Int × Int) ⊕ Int) :=
 .ite (decide (v_.2 < 8)) (.ite ((v_.1.tmod 2) == 1) (.ret (.inl ((bxor .i64 (wi64 (v_.1.tdiv 2)) 40961), (wi64 (v_.2 + 1)))))
 (.ret (.inl ((wi64 (v_.1.tdiv 2)), (wi64 (v_.2 + 1))))))
 (.ret (.inr v_.1))
def ref1_Crc_s0 := fun b i v_ => (ref1_Crc_s0t b i v_).get
def ref1_Crc_l0 := fun b i c k => iter (ref1_Crc_s0 b i) n_ (c, k)
def ref1_Crc_s1t (b : List UInt8) (v_ : Int × Int) : Tree ((Int × Int) ⊕ Int) :=
 .ite (decide (v_.2 < (b.length : Int))) (.ite (inR v_.2 b.length) (.opt (b[v_.2.toNat]?) fun y_1 =>
  .opt (ref1_Crc_l0 n_ b v_.2 (bxor .i64 v_.1 (wi64 (i8 y_1))) 0) fun r_2 =>
  .ret (.inl (r_2, (wi64 (v_.2 + 1))))) .fail)
 (.ret (.inr v_.1))
def ref1_Crc_s1 := fun b v_ => (ref1_Crc_s1t n_ b v_).get
def ref1_Crc_l1 := fun b c i => iter (ref1_Crc_s1 n_ b) n_ (c, i)
def ref1_Crc_t (b : List UInt8) : Tree Int :=
 .opt (ref1_Crc_l1 n_ b 0 0) fun r_1 =>
 .ret (wu16 r_1)
def ref1_Crc := fun b => (ref1_Crc_t n_ b).get
def ref13_sealed_t (b : List UInt8) : Tree (List UInt8) :=
 .opt (ref1_Crc n_ b) fun r_1 =>
 .opt (ref1_Put n_ b (wi64 r_1) 2) fun r_2 =>
 .ret r_2
def ref13_sealed := fun b => (ref13_sealed_t n_ b).get
def ref13_PutTell_t (t : TTell) : Tree (List UInt8) :=
 .ite (!(ref13_MayTell t)) (.ret ([]))
 (.opt (ref1_Put n_ [] t.Kind 1) fun r_1 =>
 .opt (ref1_Put n_ r_1 t.To 1) fun r_2 =>
 .opt (ref1_Put n_ r_2 t.Epoch 4) fun r_3 =>
 .opt (ref1_Put n_ r_3 t.Seq 4) fun r_4 =>
 .opt (ref1_Put n_ r_4 t.Err 1) fun r_5 =>
 .opt (ref1_Put n_ r_5 t.File 1) fun r_6 =>
 .opt (ref1_Put n_ r_6 t.Mode 1) fun r_7 =>
 .opt (ref1_Put n_ r_7 t.Ver 4) fun r_8 =>
 .opt (ref1_Text r_8 t.Body) fun r_9 =>
 .opt (ref13_sealed n_ r_9) fun r_10 =>
 .ret r_10)
def ref13_PutTell := fun t => (ref13_PutTell_t n_ t).get
def bits_front_t (b : List UInt8) (n : Int) : Tree ((List UInt8) ⊕ Unit) :=
 .ite (decide ((b.length : Int) < n)) (.ret (.inr ()))
 (.ite (cutOk 0 n b.length) (.ret (.inl (cutL b 0 n))) .fail)
def bits_front := fun b n => (bits_front_t b n).get
def bits_Take_s0t (t16 : List UInt8) (t17 : Int) (ok : Bool) (v_ : Int × Int) : Tree ((Int × Int) ⊕ Int) :=
 .ite (decide (v_.2 < t17)) (.ite (inR v_.2 t16.length) (.opt (t16[v_.2.toNat]?) fun y_1 =>
  .ret (.inl ((bor .i64 (shlI .i64 v_.1 8) (wi64 (i8 y_1))), (wi64 (v_.2 + 1))))) .fail)
 (.ret (.inr v_.1))
def bits_Take_s0 := fun t16 t17 ok v_ => (bits_Take_s0t t16 t17 ok v_).get
def bits_Take_l0 := fun t16 t17 ok v t18 => iter (bits_Take_s0 t16 t17 ok) n_ (v, t18)
def bits_Take_t (b : List UInt8) (n : Int) : Tree (Int × Bool) :=
 .ite (decide (n < 1)) (.ret (0, false))
 (.ite (decide (n > 7)) (.ret (0, false))
 (.opt (bits_front b n) fun r_1 =>
 altT r_1 (fun a_2 =>
 .opt (bits_Take_l0 n_ a_2 (a_2.length : Int) false 0 0) fun r_3 =>
 .ret (r_3, true)) fun b_4 =>
 .ret (0, false)))
def bits_Take := fun b n => (bits_Take_t n_ b n).get
def msg_reader_num_t (n : Int) (r : Tmsg_reader) : Tree ((Int × Tmsg_reader) ⊕ Unit) :=
 .opt (bits_Take n_ r.b n) fun r_1 =>
 .ite (!r_1.2) (.ret (.inr ()))
 (.ite (cutOk n (r.b.length : Int) r.b.length) (.ret (.inl (r_1.1, (Tmsg_reader.mk (cutL r.b n (r.b.length : Int)))))) .fail)
def msg_reader_num := fun n r => (msg_reader_num_t n_ n r).get
def bits_TakeText_t (b : List UInt8) : Tree (List UInt8 × Int × Bool) :=
 .opt (bits_front b 1) fun r_1 =>
 altT r_1 (fun a_2 =>
 .ite (inR 0 a_2.length) (.opt (a_2[0]?) fun y_3 =>
  .ite (decide ((b.length : Int) < (wi64 ((wi64 (i8 y_3)) + 1)))) (.ret ([], 0, false))
  (.ite (cutOk 1 (wi64 ((wi64 (i8 y_3)) + 1)) b.length) (.ret ((cutL b 1 (wi64 ((wi64 (i8 y_3)) + 1))), (wi64 ((wi64 (i8 y_3)) + 1)), true)) .fail)) .fail) fun b_4 =>
 .ret ([], 0, false)
def bits_TakeText := fun b => (bits_TakeText_t b).get
def msg_reader_text_t (r : Tmsg_reader) : Tree ((List UInt8 × Tmsg_reader) ⊕ Unit) :=
 .opt (bits_TakeText r.b) fun r_1 =>
 .ite (!r_1.2.2) (.ret (.inr ()))
 (.ite (cutOk r_1.2.1 (r.b.length : Int) r.b.length) (.ret (.inl (r_1.1, (Tmsg_reader.mk (cutL r.b r_1.2.1 (r.b.length : Int)))))) .fail)
def msg_reader_text := fun r => (msg_reader_text_t r).get
def msg_reader_tell_t (r : Tmsg_reader) : Tree ((TTell × Tmsg_reader) ⊕ Tmsg_reader) :=
 .opt (msg_reader_num n_ 1 r) fun r_1 =>
 altT r_1 (fun a_2 =>
 .opt (msg_reader_num n_ 1 a_2.2) fun r_3 =>
 altT r_3 (fun a_4 =>
  .opt (msg_reader_num n_ 4 a_4.2) fun r_5 =>
  altT r_5 (fun a_6 =>
  .opt (msg_reader_num n_ 4 a_6.2) fun r_7 =>
  altT r_7 (fun a_8 =>
   .opt (msg_reader_num n_ 1 a_8.2) fun r_9 =>
   altT r_9 (fun a_10 =>
   .opt (msg_reader_num n_ 1 a_10.2) fun r_11 =>
   altT r_11 (fun a_12 =>
    .opt (msg_reader_num n_ 1 a_12.2) fun r_13 =>
    altT r_13 (fun a_14 =>
    .opt (msg_reader_num n_ 4 a_14.2) fun r_15 =>
    altT r_15 (fun a_16 =>
     .opt (msg_reader_text a_16.2) fun r_17 =>
     altT r_17 (fun a_18 =>
     .ret (.inl ((TTell.mk a_2.1 a_4.1 a_6.1 a_8.1 a_10.1 a_12.1 a_14.1 a_16.1 a_18.1), a_18.2))) fun b_19 =>
     .ret (.inr a_16.2)) fun b_20 =>
    .ret (.inr a_14.2)) fun b_21 =>
    .ret (.inr a_12.2)) fun b_22 =>
   .ret (.inr a_10.2)) fun b_23 =>
   .ret (.inr a_8.2)) fun b_24 =>
  .ret (.inr a_6.2)) fun b_25 =>
  .ret (.inr a_4.2)) fun b_26 =>
 .ret (.inr a_2.2)) fun b_27 =>
 .ret (.inr r)
def msg_reader_tell := fun r => (msg_reader_tell_t n_ r).get
def msg_from_t (lo : Int) (hi : Int) (v : Int) : TT Bool :=
 .ite (decide (lo ≤ v)) (.ret (decide (v ≤ hi)))
 (.ret false)
def msg_from := fun lo hi v => (msg_from_t lo hi v).val
def msg_MayTell_t (t : TTell) : TT Bool :=
 .ite (!(msg_from 1 3 t.Kind)) (.ret false)
 (.ite (!(msg_from 1 3 t.To)) (.ret false)
 (.ite (!(msg_from 0 1073741824 t.Epoch)) (.ret false)
 (.ite (t.Kind == 2) (.ite (TTell.eqb t (TTell.mk t.Kind t.To t.Epoch 0 0 t.File 0 0 [])) (.ret (msg_from 1 6 t.File))
 (.ret false))
 (.ite (t.Kind == 3) (.ret (TTell.eqb t (TTell.mk t.Kind t.To t.Epoch 0 0 0 0 0 [])))
 (.ite (msg_from 1 1073741824 t.Seq) (.ite (decide (t.Err ≥ 0)) (.ite (decide (t.Err ≤ 7)) (.ite (msg_from 0 6 t.File) (.ite (msg_from 0 2 t.Mode) (.ite (msg_from 0 1073741824 t.Ver) (.ret (decide ((t.Body.length : Int) ≤ 24)))
   (.ret false))
   (.ret false))
  (.ret false))
  (.ret false))
 (.ret false))
 (.ret false))))))
def msg_MayTell := fun t => (msg_MayTell_t t).val
def bits_Put_s0t (v : Int) (v_ : Int × List UInt8) : Tree ((Int × List UInt8) ⊕ (List UInt8)) :=
 .ite (decide (v_.1 ≥ 0)) (.ite (decide ((wi64 (8 * v_.1)) < 0)) .fail
 (.ite (decide ((v_.2.length + 1) ≤ lim)) (.ret (.inl ((wi64 (v_.1 - 1)), (v_.2 ++ [(b8 (wu8 (shrI .i64 v (wi64 (8 * v_.1)))))])))) .fail))
 (.ret (.inr v_.2))
def bits_Put_s0 := fun v v_ => (bits_Put_s0t v v_).get
def bits_Put_l0 := fun v n b => iter (bits_Put_s0 v) n_ (n, b)
def bits_Put_t (b : List UInt8) (v : Int) (n : Int) : Tree (List UInt8) :=
 .ite (decide (n < 1)) (.ret b)
 (.ite (decide (n > 8)) (.ret b)
 (.opt (bits_Put_l0 n_ v (wi64 (n - 1)) b) fun r_1 =>
 .ret r_1))
def bits_Put := fun b v n => (bits_Put_t n_ b v n).get
def bits_Text_t (b : List UInt8) (s : List UInt8) : Tree (List UInt8) :=
 .ite (decide ((s.length : Int) > 255)) (.ret b)
 (.ite (decide ((b.length + 1) ≤ lim)) (.ite (decide (((b ++ [(b8 (wu8 (s.length : Int)))]).length + s.length) ≤ lim)) (.ret ((b ++ [(b8 (wu8 (s.length : Int)))]) ++ s)) .fail) .fail)
def bits_Text := fun b s => (bits_Text_t b s).get
def crc_Sum_s0t (t6 : List UInt8) (t7 : Int) (t8 : Int) (v_ : Int × Int) : Tree ((Int × Int) ⊕ Int) :=
 .ite (decide (v_.2 < 8)) (.ite ((band .u16 v_.1 1) == 1) (.ret (.inl ((bxor .u16 (shrI .u16 v_.1 1) 40961), (wi64 (v_.2 + 1)))))
 (.ret (.inl ((shrI .u16 v_.1 1), (wi64 (v_.2 + 1))))))
 (.ret (.inr v_.1))
def crc_Sum_s0 := fun t6 t7 t8 v_ => (crc_Sum_s0t t6 t7 t8 v_).get
def crc_Sum_l0 := fun t6 t7 t8 c t16 => iter (crc_Sum_s0 t6 t7 t8) n_ (c, t16)
def crc_Sum_s1t (t6 : List UInt8) (t7 : Int) (v_ : Int × Int) : Tree ((Int × Int) ⊕ Int) :=
 .ite (decide (v_.2 < t7)) (.ite (inR v_.2 t6.length) (.opt (t6[v_.2.toNat]?) fun y_1 =>
  .opt (crc_Sum_l0 n_ t6 t7 v_.2 (bxor .u16 v_.1 (wu16 (i8 y_1))) 0) fun r_2 =>
  .ret (.inl (r_2, (wi64 (v_.2 + 1))))) .fail)
 (.ret (.inr v_.1))
def crc_Sum_s1 := fun t6 t7 v_ => (crc_Sum_s1t n_ t6 t7 v_).get
def crc_Sum_l1 := fun t6 t7 c t8 => iter (crc_Sum_s1 n_ t6 t7) n_ (c, t8)
def crc_Sum_t (b : List UInt8) : Tree Int :=
 .opt (crc_Sum_l1 n_ b (b.length : Int) 0 0) fun r_1 =>
 .ret r_1
def crc_Sum := fun b => (crc_Sum_t n_ b).get
def msg_sealed_t (b : List UInt8) : Tree (List UInt8) :=
 .opt (crc_Sum n_ b) fun r_1 =>
 .opt (bits_Put n_ b (wi64 r_1) 2) fun r_2 =>
 .ret r_2
def msg_sealed := fun b => (msg_sealed_t n_ b).get
def msg_PutTell_t (t : TTell) : Tree (List UInt8) :=
 .ite (!(msg_MayTell t)) (.ret ([]))
 (.opt (bits_Put n_ [] t.Kind 1) fun r_1 =>
 .opt (bits_Put n_ r_1 t.To 1) fun r_2 =>
 .opt (bits_Put n_ r_2 t.Epoch 4) fun r_3 =>
 .opt (bits_Put n_ r_3 t.Seq 4) fun r_4 =>
 .opt (bits_Put n_ r_4 t.Err 1) fun r_5 =>
 .opt (bits_Put n_ r_5 t.File 1) fun r_6 =>
 .opt (bits_Put n_ r_6 t.Mode 1) fun r_7 =>
 .opt (bits_Put n_ r_7 t.Ver 4) fun r_8 =>
 .opt (bits_Text r_8 t.Body) fun r_9 =>
 .opt (msg_sealed n_ r_9) fun r_10 =>
 .ret r_10)
def msg_PutTell := fun t => (msg_PutTell_t n_ t).get
def slices_Equal_byte_s0t (s1 : List UInt8) (s2 : List UInt8) (t12 : Int) (v_ : Int) : Tree (Int ⊕ (Unit ⊕ Unit)) :=
 .ite (decide (v_ < t12)) (.ite (inR v_ s1.length) (.opt (s1[v_.toNat]?) fun y_1 =>
  .ite (inR v_ s2.length) (.opt (s2[v_.toNat]?) fun y_2 =>
  .ite ((i8 y_1) != (i8 y_2)) (.ret (.inr (.inl ())))
  (.ret (.inl (wi64 (v_ + 1))))) .fail) .fail)
 (.ret (.inr (.inr ())))
def slices_Equal_byte_s0 := fun s1 s2 t12 v_ => (slices_Equal_byte_s0t s1 s2 t12 v_).get
def slices_Equal_byte_l0 := fun s1 s2 t12 t13 => iter (slices_Equal_byte_s0 s1 s2 t12) n_ t13
def slices_Equal_byte_t (s1 : List UInt8) (s2 : List UInt8) : Tree Bool :=
 .ite ((s1.length : Int) != (s2.length : Int)) (.ret false)
 (.opt (slices_Equal_byte_l0 n_ s1 s2 (s1.length : Int) 0) fun r_1 =>
 altT r_1 (fun a_2 =>
 .ret false) fun b_3 =>
 .ret true)
def slices_Equal_byte := fun s1 s2 => (slices_Equal_byte_t n_ s1 s2).get
def msg_takes_Tell_t (b : List UInt8) : Tree (TTell × Bool) :=
 .opt (msg_reader_tell n_ (Tmsg_reader.mk b)) fun r_1 =>
 altT r_1 (fun a_2 =>
 .ite ((b.length : Int) == 0) (.ret ((TTell.mk 0 0 0 0 0 0 0 0 []), false))
 (.opt (msg_PutTell n_ a_2.1) fun r_3 =>
 .opt (slices_Equal_byte n_ r_3 b) fun r_4 =>
 .ite (!r_4) (.ret ((TTell.mk 0 0 0 0 0 0 0 0 []), false))
 (.ret (a_2.1, true)))) fun b_5 =>
 .ret ((TTell.mk 0 0 0 0 0 0 0 0 []), false)
def msg_takes_Tell := fun b => (msg_takes_Tell_t n_ b).get
def msg_TakeTell_t (b : List UInt8) : Tree (TTell × Bool) :=
 .opt (msg_takes_Tell n_ b) fun r_1 =>
 .ret (r_1.1, r_1.2)
def msg_TakeTell := fun b => (msg_TakeTell_t n_ b).get
def client_work_epoch_s0t (t25 : Int) (t : TTell) (v_ : Int × Tclient_work) : Tree ((Int × Tclient_work) ⊕ Tclient_work) :=
 .ite (decide (v_.1 < t25)) (.ite (inR v_.1 v_.2.Client.Files.length) (.opt (v_.2.Client.Files[v_.1.toNat]?) fun y_1 =>
  .ite (inR v_.1 v_.2.Client.Files.length) (.opt (v_.2.Client.Files[v_.1.toNat]?) fun y_2 =>
  .ret (.inl ((wi64 (v_.1 + 1)), (Tclient_work.mk { v_.2.Client with Files := (v_.2.Client.Files.set v_.1.toNat (cache_Reset y_1)) } [])))) .fail) .fail)
 (.ret (.inr ({ v_.2 with asked := [] })))
def client_work_epoch_s0 := fun t25 t v_ => (client_work_epoch_s0t t25 t v_).get
def client_work_epoch_l0 := fun t25 t t26 w => iter (client_work_epoch_s0 t25 t) n_ (t26, w)
def client_work_epoch_t (t : TTell) (w : Tclient_work) : Tree (Tclient_work ⊕ Tclient_work) :=
 .ite (decide (t.Epoch ≤ w.Client.Epoch)) (.ret (.inl ({ w with asked := [] })))
 (.opt (client_work_epoch_l0 n_ (w.Client.Files.length : Int) t 0 (Tclient_work.mk { w.Client with Epoch := t.Epoch } [])) fun r_1 =>
 .ite r_1.Client.Out.Is (.ret (.inr (client_work_again (Tclient_work.mk { r_1.Client with Out := { r_1.Client.Out with Ask := { r_1.Client.Out.Ask with Epoch := t.Epoch } } } []))))
 (.ret (.inl ({ r_1 with asked := [] }))))
def client_work_epoch := fun t w => (client_work_epoch_t n_ t w).get
def client_work_called_t (t : TTell) (w : Tclient_work) : Tree (Tclient_work ⊕ (Tclient_work ⊕ (Tclient_work ⊕ Tclient_work))) :=
 .opt (client_work_file t.File { w with asked := [] }) fun r_1 =>
 altT r_1 (fun a_2 =>
 .ite (t.Epoch != w.Client.Epoch) (.ret (.inl ({ w with asked := [] })))
 (.opt (w.Client.Files[a_2]?) fun y_3 =>
 .ite (y_3.Mode == 0) (.ret (.inl ({ w with asked := [] })))
 (.opt (w.Client.Files[a_2]?) fun y_4 =>
 .ite (!w.Client.Out.Is) (.opt (client_work_gives t.File (Tclient_work.mk { w.Client with Files := (w.Client.Files.set a_2 { y_4 with Called := true }) } [])) fun r_5 =>
  altT r_5 (fun a_6 =>
  .ret (.inr (.inr (.inl a_6)))) fun b_7 =>
  .ret (.inr (.inr (.inr b_7))))
 (.ret (.inl (Tclient_work.mk { w.Client with Files := (w.Client.Files.set a_2 { y_4 with Called := true }) } [])))))) fun b_8 =>
 .ite (t.Epoch != w.Client.Epoch) (.ret (.inr (.inl ({ w with asked := [] }))))
 (.ret (.inr (.inl ({ w with asked := [] }))))
def client_work_called := fun t w => (client_work_called_t t w).get
def client_work_file_3_t (n : Int) (w : Tclient_work) : Tree (Nat ⊕ Unit) :=
 .ite (decide (n < 1)) (.ret (.inr ()))
 (.ite (decide (n > (w.Client.Files.length : Int))) (.ret (.inr ()))
 (.ite (inR (wi64 (n - 1)) w.Client.Files.length) (.ret (.inl ((wi64 (n - 1)).toNat))) .fail))
def client_work_file_3 := fun n w => (client_work_file_3_t n w).get
def client_work_named_s0t (name : List UInt8) (n : Int) (t25 : Int) (v_ : Int × Tclient_work) : Tree ((Int × Tclient_work) ⊕ Tclient_work) :=
 .ite (decide (v_.1 < t25)) (.ite (inR v_.1 v_.2.Client.Names.length) (.opt (v_.2.Client.Names[v_.1.toNat]?) fun y_1 =>
  .ite (y_1 == name) (.ite (inR v_.1 v_.2.Client.Names.length) (.opt (v_.2.Client.Names[v_.1.toNat]?) fun y_2 =>
   .ret (.inl ((wi64 (v_.1 + 1)), (Tclient_work.mk { v_.2.Client with Names := (v_.2.Client.Names.set v_.1.toNat []), Out := { v_.2.Client.Out with Ask := { v_.2.Client.Out.Ask with Writes := [] } } } [])))) .fail)
  (.ret (.inl ((wi64 (v_.1 + 1)), (Tclient_work.mk { v_.2.Client with Out := { v_.2.Client.Out with Ask := { v_.2.Client.Out.Ask with Writes := [] } } } []))))) .fail)
 (.ret (.inr (Tclient_work.mk { v_.2.Client with Out := { v_.2.Client.Out with Ask := { v_.2.Client.Out.Ask with Writes := [] } } } [])))
def client_work_named_s0 := fun name n t25 v_ => (client_work_named_s0t name n t25 v_).get
def client_work_named_l0 := fun name n t25 t26 w => iter (client_work_named_s0 name n t25) n_ (t26, w)
def client_work_named_t (name : List UInt8) (n : Int) (w : Tclient_work) : Tree Tclient_work :=
 .ite (decide (n < 1)) (.ret (Tclient_work.mk { w.Client with Out := { w.Client.Out with Ask := { w.Client.Out.Ask with Writes := [] } } } []))
 (.ite (decide (n > (w.Client.Names.length : Int))) (.ret (Tclient_work.mk { w.Client with Out := { w.Client.Out with Ask := { w.Client.Out.Ask with Writes := [] } } } []))
 (.opt (client_work_named_l0 n_ name n (w.Client.Names.length : Int) 0 (Tclient_work.mk { w.Client with Out := { w.Client.Out with Ask := { w.Client.Out.Ask with Writes := [] } } } [])) fun r_1 =>
 .ite (inR (wi64 (n - 1)) r_1.Client.Names.length) (.opt (r_1.Client.Names[(wi64 (n - 1)).toNat]?) fun y_2 =>
 .ret (Tclient_work.mk { r_1.Client with Names := (r_1.Client.Names.set (wi64 (n - 1)).toNat name), Out := { r_1.Client.Out with Ask := { r_1.Client.Out.Ask with Writes := [] } } } [])) .fail))
def client_work_named := fun name n w => (client_work_named_t n_ name n w).get
def clock_within_t (v : Int) (most : Int) : Tree (Unit ⊕ Unit) :=
 .ite (decide (v < 0)) (.ret (.inr ()))
 (.ite (decide (v > most)) (.ret (.inr ()))
 (.ret (.inl ())))
def clock_within := fun v most => (clock_within_t v most).get
def clock_Short_t (term : Int) (eps : Int) : Tree Int :=
 .opt (clock_within term 1099511627776) fun r_1 =>
 altT r_1 (fun a_2 =>
 .opt (clock_within eps 500) fun r_3 =>
 altT r_3 (fun a_4 =>
  .ite ((wi64 (1000 + eps)) == 0) .fail
  (.ret (wi64 ((wi64 (term * (wi64 (1000 - eps)))).tdiv (wi64 (1000 + eps)))))) fun b_5 =>
 .ret 0) fun b_6 =>
 .ret 0
def clock_Short := fun term eps => (clock_Short_t term eps).get
def clock_Add_t (a : Int) (b : Int) : TT Int :=
 .ite (decide (a > 0)) (.ite (decide (b > (wi64 (9223372036854775807 - a)))) (.ret 9223372036854775807)
 (.ret (wi64 (a + b))))
 (.ret (wi64 (a + b)))
def clock_Add := fun a b => (clock_Add_t a b).val
def cache_Let (c : TCache) (mode : Int) (until_ : Int) (ver : Int) (body : List UInt8) : TCache := (TCache.mk mode until_ ver body c.Dirty c.Sent false c.Lost)
def cache_Done_t (c : TCache) (ver : Int) : Tree TCache :=
 .ite (c.Mode != 2) (.ret c)
 (.ite (cutOk 0 (imax (imin c.Sent (c.Dirty.length : Int)) 0) c.Dirty.length) (.opt (file_All n_ c.Body (cutL c.Dirty 0 (imax (imin c.Sent (c.Dirty.length : Int)) 0))) fun r_1 =>
 .ite (cutOk (imax (imin c.Sent (c.Dirty.length : Int)) 0) (c.Dirty.length : Int) c.Dirty.length) (.ret (TCache.mk c.Mode c.Until ver r_1 (cutL c.Dirty (imax (imin c.Sent (c.Dirty.length : Int)) 0) (c.Dirty.length : Int)) 0 c.Called c.Lost)) .fail) .fail)
def cache_Done := fun c ver => (cache_Done_t n_ c ver).get
def client_work_named_2_s0t (name : List UInt8) (n : Int) (t25 : Int) (v_ : Int × Tclient_work) : Tree ((Int × Tclient_work) ⊕ Tclient_work) :=
 .ite (decide (v_.1 < t25)) (.ite (inR v_.1 v_.2.Client.Names.length) (.opt (v_.2.Client.Names[v_.1.toNat]?) fun y_1 =>
  .ite (y_1 == name) (.ite (inR v_.1 v_.2.Client.Names.length) (.opt (v_.2.Client.Names[v_.1.toNat]?) fun y_2 =>
   .ret (.inl ((wi64 (v_.1 + 1)), (Tclient_work.mk { v_.2.Client with Names := (v_.2.Client.Names.set v_.1.toNat []), Out := { v_.2.Client.Out with Ask := { v_.2.Client.Out.Ask with Writes := [] } } } [])))) .fail)
  (.ret (.inl ((wi64 (v_.1 + 1)), (Tclient_work.mk { v_.2.Client with Out := { v_.2.Client.Out with Ask := { v_.2.Client.Out.Ask with Writes := [] } } } []))))) .fail)
 (.ret (.inr (Tclient_work.mk { v_.2.Client with Out := { v_.2.Client.Out with Ask := { v_.2.Client.Out.Ask with Writes := [] } } } [])))
def client_work_named_2_s0 := fun name n t25 v_ => (client_work_named_2_s0t name n t25 v_).get
def client_work_named_2_l0 := fun name n t25 t26 w => iter (client_work_named_2_s0 name n t25) n_ (t26, w)
def client_work_named_2_t (name : List UInt8) (n : Int) (w : Tclient_work) : Tree Tclient_work :=
 .ite (decide (n < 1)) (.ret (Tclient_work.mk { w.Client with Out := { w.Client.Out with Ask := { w.Client.Out.Ask with Writes := [] } } } []))
 (.ite (decide (n > (w.Client.Names.length : Int))) (.ret (Tclient_work.mk { w.Client with Out := { w.Client.Out with Ask := { w.Client.Out.Ask with Writes := [] } } } []))
 (.opt (client_work_named_2_l0 n_ name n (w.Client.Names.length : Int) 0 (Tclient_work.mk { w.Client with Out := { w.Client.Out with Ask := { w.Client.Out.Ask with Writes := [] } } } [])) fun r_1 =>
 .ite (inR (wi64 (n - 1)) r_1.Client.Names.length) (.opt (r_1.Client.Names[(wi64 (n - 1)).toNat]?) fun y_2 =>
 .ret (Tclient_work.mk { r_1.Client with Names := (r_1.Client.Names.set (wi64 (n - 1)).toNat name), Out := { r_1.Client.Out with Ask := { r_1.Client.Out.Ask with Writes := [] } } } [])) .fail))
def client_work_named_2 := fun name n w => (client_work_named_2_t n_ name n w).get
def client_work_done_t (t : TTell) (w : Tclient_work) : Tree (Tclient_work ⊕ Tclient_work) :=
 .ite (t.Epoch != w.Client.Epoch) (.ret (.inr ({ w with asked := [] })))
 (.ite (!w.Client.Out.Is) (.ret (.inr ({ w with asked := [] })))
 (.ite (t.Seq != w.Client.Out.Ask.Seq) (.ret (.inr ({ w with asked := [] })))
 (.opt (client_work_file_3 w.Client.Out.Ask.File (Tclient_work.mk { w.Client with Out := (TOut.mk false (TAsk.mk 0 0 0 0 [] 0 0 []) 0 0) } [])) fun r_1 =>
 altT r_1 (fun a_2 =>
 .ite (w.Client.Out.Ask.Kind == 1) (.ite (t.Err == 0) (.opt (client_work_named n_ w.Client.Out.Ask.Name t.File (Tclient_work.mk { w.Client with Out := (TOut.mk false (TAsk.mk 0 0 0 0 [] 0 0 []) 0 0) } [])) fun r_3 =>
  .ret (.inl (Tclient_work.mk { r_3.Client with Out := { r_3.Client.Out with Ask := { r_3.Client.Out.Ask with Writes := [] } } } [])))
  (.ret (.inl (Tclient_work.mk { w.Client with Out := (TOut.mk false (TAsk.mk 0 0 0 0 [] 0 0 []) 0 0) } []))))
 (.ite (w.Client.Out.Ask.Kind == 2) (.opt (clock_Short 60 100) fun r_4 =>
  .ite (t.Err == 0) (.ite (decide (w.Client.Now < (clock_Add w.Client.Out.First r_4))) (.ite (t.Mode != 0) (.opt (w.Client.Files[a_2]?) fun y_5 =>
   .opt (w.Client.Files[a_2]?) fun y_6 =>
   .ret (.inl (Tclient_work.mk { w.Client with Files := (w.Client.Files.set a_2 (cache_Let y_5 t.Mode (clock_Add w.Client.Out.First r_4) t.Ver t.Body)), Out := (TOut.mk false (TAsk.mk 0 0 0 0 [] 0 0 []) 0 0) } [])))
   (.ret (.inl (Tclient_work.mk { w.Client with Out := (TOut.mk false (TAsk.mk 0 0 0 0 [] 0 0 []) 0 0) } []))))
  (.ret (.inl (Tclient_work.mk { w.Client with Out := (TOut.mk false (TAsk.mk 0 0 0 0 [] 0 0 []) 0 0) } []))))
  (.ret (.inl (Tclient_work.mk { w.Client with Out := (TOut.mk false (TAsk.mk 0 0 0 0 [] 0 0 []) 0 0) } []))))
 (.ite (w.Client.Out.Ask.Kind == 3) (.ite (t.Err == 0) (.opt (w.Client.Files[a_2]?) fun y_7 =>
  .opt (cache_Done n_ y_7 t.Ver) fun r_8 =>
  .opt (w.Client.Files[a_2]?) fun y_9 =>
  .ret (.inl (Tclient_work.mk { w.Client with Files := (w.Client.Files.set a_2 r_8), Out := (TOut.mk false (TAsk.mk 0 0 0 0 [] 0 0 []) 0 0) } [])))
  (.opt (w.Client.Files[a_2]?) fun y_10 =>
  .opt (w.Client.Files[a_2]?) fun y_11 =>
  .ret (.inl (Tclient_work.mk { w.Client with Files := (w.Client.Files.set a_2 (cache_Reset y_10)), Out := (TOut.mk false (TAsk.mk 0 0 0 0 [] 0 0 []) 0 0) } []))))
 (.ite (w.Client.Out.Ask.Kind == 4) (.opt (w.Client.Files[a_2]?) fun y_12 =>
  .ite y_12.Lost (.opt (w.Client.Files[a_2]?) fun y_13 =>
  .ret (.inl (Tclient_work.mk { w.Client with Files := (w.Client.Files.set a_2 { y_13 with Lost := true }), Out := (TOut.mk false (TAsk.mk 0 0 0 0 [] 0 0 []) 0 0) } [])))
  (.ite (!(t.Err == 0)) (.opt (w.Client.Files[a_2]?) fun y_14 =>
  .ret (.inl (Tclient_work.mk { w.Client with Files := (w.Client.Files.set a_2 { y_14 with Lost := (decide ((w.Client.Out.Ask.Writes.length : Int) > 0)) }), Out := (TOut.mk false (TAsk.mk 0 0 0 0 [] 0 0 []) 0 0) } [])))
  (.opt (w.Client.Files[a_2]?) fun y_15 =>
  .ret (.inl (Tclient_work.mk { w.Client with Files := (w.Client.Files.set a_2 { y_15 with Lost := false }), Out := (TOut.mk false (TAsk.mk 0 0 0 0 [] 0 0 []) 0 0) } [])))))
 (.ite (w.Client.Out.Ask.Kind == 5) (.ite (t.Err == 0) (.ite (inR (wi64 (w.Client.Out.Ask.File - 1)) w.Client.Names.length) (.opt (w.Client.Names[(wi64 (w.Client.Out.Ask.File - 1)).toNat]?) fun y_16 =>
   .ret (.inl (Tclient_work.mk { w.Client with Names := (w.Client.Names.set (wi64 (w.Client.Out.Ask.File - 1)).toNat []), Out := (TOut.mk false (TAsk.mk 0 0 0 0 [] 0 0 []) 0 0) } []))) .fail)
  (.ret (.inl (Tclient_work.mk { w.Client with Out := (TOut.mk false (TAsk.mk 0 0 0 0 [] 0 0 []) 0 0) } []))))
 (.ret (.inl (Tclient_work.mk { w.Client with Out := (TOut.mk false (TAsk.mk 0 0 0 0 [] 0 0 []) 0 0) } [])))))))) fun b_17 =>
 .ite (w.Client.Out.Ask.Kind == 1) (.ite (t.Err == 0) (.opt (client_work_named_2 n_ w.Client.Out.Ask.Name t.File (Tclient_work.mk { w.Client with Out := (TOut.mk false (TAsk.mk 0 0 0 0 [] 0 0 []) 0 0) } [])) fun r_18 =>
  .ret (.inl (Tclient_work.mk { r_18.Client with Out := { r_18.Client.Out with Ask := { r_18.Client.Out.Ask with Writes := [] } } } [])))
 (.ret (.inl (Tclient_work.mk { w.Client with Out := (TOut.mk false (TAsk.mk 0 0 0 0 [] 0 0 []) 0 0) } []))))
 (.ite (w.Client.Out.Ask.Kind == 2) (.opt (clock_Short 60 100) fun r_19 =>
 .ite (t.Err == 0) (.ite (decide (w.Client.Now < (clock_Add w.Client.Out.First r_19))) (.ite (t.Mode != 0) (.ret (.inl (Tclient_work.mk { w.Client with Out := (TOut.mk false (TAsk.mk 0 0 0 0 [] 0 0 []) 0 0) } [])))
  (.ret (.inl (Tclient_work.mk { w.Client with Out := (TOut.mk false (TAsk.mk 0 0 0 0 [] 0 0 []) 0 0) } []))))
  (.ret (.inl (Tclient_work.mk { w.Client with Out := (TOut.mk false (TAsk.mk 0 0 0 0 [] 0 0 []) 0 0) } []))))
 (.ret (.inl (Tclient_work.mk { w.Client with Out := (TOut.mk false (TAsk.mk 0 0 0 0 [] 0 0 []) 0 0) } []))))
 (.ite (w.Client.Out.Ask.Kind == 3) (.ite (t.Err == 0) (.opt (cache_Done n_ (TCache.mk 0 0 0 [] [] 0 false false) t.Ver) fun r_20 =>
  .ret (.inl (Tclient_work.mk { w.Client with Out := (TOut.mk false (TAsk.mk 0 0 0 0 [] 0 0 []) 0 0) } [])))
 (.ret (.inl (Tclient_work.mk { w.Client with Out := (TOut.mk false (TAsk.mk 0 0 0 0 [] 0 0 []) 0 0) } []))))
 (.ite (w.Client.Out.Ask.Kind == 4) (.ite (!(t.Err == 0)) (.ret (.inl (Tclient_work.mk { w.Client with Out := (TOut.mk false (TAsk.mk 0 0 0 0 [] 0 0 []) 0 0) } [])))
 (.ret (.inl (Tclient_work.mk { w.Client with Out := (TOut.mk false (TAsk.mk 0 0 0 0 [] 0 0 []) 0 0) } []))))
 (.ite (w.Client.Out.Ask.Kind == 5) (.ite (t.Err == 0) (.ite (inR (wi64 (w.Client.Out.Ask.File - 1)) w.Client.Names.length) (.opt (w.Client.Names[(wi64 (w.Client.Out.Ask.File - 1)).toNat]?) fun y_21 =>
  .ret (.inl (Tclient_work.mk { w.Client with Names := (w.Client.Names.set (wi64 (w.Client.Out.Ask.File - 1)).toNat []), Out := (TOut.mk false (TAsk.mk 0 0 0 0 [] 0 0 []) 0 0) } []))) .fail)
 (.ret (.inl (Tclient_work.mk { w.Client with Out := (TOut.mk false (TAsk.mk 0 0 0 0 [] 0 0 []) 0 0) } []))))
 (.ret (.inl (Tclient_work.mk { w.Client with Out := (TOut.mk false (TAsk.mk 0 0 0 0 [] 0 0 []) 0 0) } []))))))))))
def client_work_done := fun t w => (client_work_done_t n_ t w).get
def client_Comes_t (c : TClient) (b : List UInt8) : Tree (TClient × List TAsk) :=
 .opt (client_of n_ c) fun r_1 =>
 .opt (msg_TakeTell n_ b) fun r_2 =>
 .ite (!r_2.2) (.ret ({ r_1.Client with Bad := (imin (wi64 (r_1.Client.Bad + 1)) 1073741824) }, []))
 (.ite (r_2.1.To != c.ID) (.ret ({ r_1.Client with Bad := (imin (wi64 (r_1.Client.Bad + 1)) 1073741824) }, []))
 (.ite (r_2.1.Kind == 3) (.opt (client_work_epoch n_ r_2.1 { r_1 with asked := [] }) fun r_3 =>
 altT r_3 (fun a_4 =>
  .ret (a_4.Client, [])) fun b_5 =>
 .ret (b_5.Client, b_5.asked))
 (.ite (r_2.1.Kind == 2) (.opt (client_work_called r_2.1 { r_1 with asked := [] }) fun r_6 =>
 altT r_6 (fun a_7 =>
  .ret (a_7.Client, [])) fun b_8 =>
 altT b_8 (fun a_9 =>
  .ret (a_9.Client, [])) fun b_10 =>
 altT b_10 (fun a_11 =>
  .ret (a_11.Client, a_11.asked)) fun b_12 =>
 .ret (b_12.Client, b_12.asked))
 (.ite (r_2.1.Kind == 1) (.opt (client_work_done n_ r_2.1 { r_1 with asked := [] }) fun r_13 =>
 altT r_13 (fun a_14 =>
  .ret ({ a_14.Client with Out := { a_14.Client.Out with Ask := { a_14.Client.Out.Ask with Writes := [] } } }, [])) fun b_15 =>
 .ret (b_15.Client, []))
 (.ret (r_1.Client, []))))))
def client_Comes := fun c b => (client_Comes_t n_ c b).get
def sess_Due_t (o : TOut) (now : Int) : TT Bool :=
 .ite o.Is (.ret (decide ((wi64 (now - o.Last)) ≥ 10)))
 (.ret false)
def sess_Due := fun o now => (sess_Due_t o now).val
def client_Run_c1_t (f : TCache) (o1 : Tclient_work) : TT Bool :=
 .ite (f.Mode != 0) (.ite f.Called (.ret true)
 (.ite (decide ((f.Dirty.length : Int) > 0)) (.ret (decide (o1.Client.Now ≥ (wi64 (f.Until - 15)))))
 (.ret false)))
 (.ret false)
def client_Run_c1 := fun f o1 => (client_Run_c1_t f o1).val
def slices_IndexFunc_Cache_s0t (s : List TCache) (t7 : Int) (v_ : Int × Tclient_work) : Tree ((Int × Tclient_work) ⊕ ((Int × Tclient_work) ⊕ Tclient_work)) :=
 .ite (decide (v_.1 < t7)) (.ite (inR v_.1 s.length) (.opt (s[v_.1.toNat]?) fun y_1 =>
  .ite (client_Run_c1 y_1 { v_.2 with asked := [] }) (.ret (.inr (.inl (v_.1, { v_.2 with asked := [] }))))
  (.ret (.inl ((wi64 (v_.1 + 1)), { v_.2 with asked := [] })))) .fail)
 (.ret (.inr (.inr ({ v_.2 with asked := [] }))))
def slices_IndexFunc_Cache_s0 := fun s t7 v_ => (slices_IndexFunc_Cache_s0t s t7 v_).get
def slices_IndexFunc_Cache_l0 := fun s t7 t8 o1 => iter (slices_IndexFunc_Cache_s0 s t7) n_ (t8, o1)
def slices_IndexFunc_Cache_t (s : List TCache) (o1 : Tclient_work) : Tree (Int × Tclient_work) :=
 .opt (slices_IndexFunc_Cache_l0 n_ s (s.length : Int) 0 { o1 with asked := [] }) fun r_1 =>
 altT r_1 (fun a_2 =>
 .ret (a_2.1, { a_2.2 with asked := [] })) fun b_3 =>
 .ret ((-1), { b_3 with asked := [] })
def slices_IndexFunc_Cache := fun s o1 => (slices_IndexFunc_Cache_t n_ s o1).get
def client_work_gives_2_t (n : Int) (w : Tclient_work) : Tree (Tclient_work ⊕ Tclient_work) :=
 .opt (client_work_file n { w with asked := [] }) fun r_1 =>
 altT r_1 (fun a_2 =>
 .opt (w.Client.Files[a_2]?) fun y_3 =>
 .opt ((client_work_asks_2 (TAsk.mk 4 0 0 0 [] n 0 y_3.Dirty) { w with asked := [] }).Client.Files[a_2]?) fun y_4 =>
 .opt ((client_work_asks_2 (TAsk.mk 4 0 0 0 [] n 0 y_3.Dirty) { w with asked := [] }).Client.Files[a_2]?) fun y_5 =>
 .opt ((client_work_asks_2 (TAsk.mk 4 0 0 0 [] n 0 y_3.Dirty) { w with asked := [] }).Client.Files[a_2]?) fun y_6 =>
 .opt (((client_work_asks_2 (TAsk.mk 4 0 0 0 [] n 0 y_3.Dirty) { w with asked := [] }).Client.Files.set a_2 (cache_Reset y_5))[a_2]?) fun y_7 =>
 .ret (.inl ({ (client_work_asks_2 (TAsk.mk 4 0 0 0 [] n 0 y_3.Dirty) { w with asked := [] }) with Client := { (client_work_asks_2 (TAsk.mk 4 0 0 0 [] n 0 y_3.Dirty) { w with asked := [] }).Client with Files := (((client_work_asks_2 (TAsk.mk 4 0 0 0 [] n 0 y_3.Dirty) { w with asked := [] }).Client.Files.set a_2 (cache_Reset y_5)).set a_2 { y_7 with Lost := y_4.Lost }) } }))) fun b_8 =>
 .ret (.inr (client_work_asks (TAsk.mk 4 0 0 0 [] n 0 []) { w with asked := [] }))
def client_work_gives_2 := fun n w => (client_work_gives_2_t n w).get
def client_Run_t (c : TClient) : Tree (TClient × List TAsk) :=
 .opt (client_of n_ c) fun r_1 =>
 .ite r_1.Client.Out.Is (.ite (sess_Due r_1.Client.Out r_1.Client.Now) (.ret ((client_work_again { r_1 with asked := [] }).Client, (client_work_again { r_1 with asked := [] }).asked))
 (.ret (r_1.Client, [])))
 (.opt (slices_IndexFunc_Cache n_ r_1.Client.Files { r_1 with asked := [] }) fun r_2 =>
 .ite (decide (r_2.1 ≥ 0)) (.opt (client_work_gives_2 (wi64 (r_2.1 + 1)) { r_1 with asked := [] }) fun r_3 =>
 altT r_3 (fun a_4 =>
  .ret (a_4.Client, a_4.asked)) fun b_5 =>
 .ret (b_5.Client, b_5.asked))
 (.ret (r_1.Client, [])))
def client_Run := fun c => (client_Run_t n_ c).get
def slices_Equal_Write_s0t (s1 : List TWrite) (s2 : List TWrite) (t12 : Int) (v_ : Int) : Tree (Int ⊕ (Unit ⊕ Unit)) :=
 .ite (decide (v_ < t12)) (.ite (inR v_ s1.length) (.opt (s1[v_.toNat]?) fun y_1 =>
  .ite (inR v_ s2.length) (.opt (s2[v_.toNat]?) fun y_2 =>
  .ite (!(TWrite.eqb y_1 y_2)) (.ret (.inr (.inl ())))
  (.ret (.inl (wi64 (v_ + 1))))) .fail) .fail)
 (.ret (.inr (.inr ())))
def slices_Equal_Write_s0 := fun s1 s2 t12 v_ => (slices_Equal_Write_s0t s1 s2 t12 v_).get
def slices_Equal_Write_l0 := fun s1 s2 t12 t13 => iter (slices_Equal_Write_s0 s1 s2 t12) n_ t13
def slices_Equal_Write_t (s1 : List TWrite) (s2 : List TWrite) : Tree Bool :=
 .ite ((s1.length : Int) != (s2.length : Int)) (.ret false)
 (.opt (slices_Equal_Write_l0 n_ s1 s2 (s1.length : Int) 0) fun r_1 =>
 altT r_1 (fun a_2 =>
 .ret false) fun b_3 =>
 .ret true)
def slices_Equal_Write := fun s1 s2 => (slices_Equal_Write_t n_ s1 s2).get
def msg_SameAsk_t (a : TAsk) (b : TAsk) : Tree Bool :=
 .ite (a.Kind == b.Kind) (.ite (a.From == b.From) (.ite (a.Epoch == b.Epoch) (.ite (a.Seq == b.Seq) (.ite (a.Name == b.Name) (.ite (a.File == b.File) (.ite (a.Mode == b.Mode) (.opt (slices_Equal_Write n_ a.Writes b.Writes) fun r_1 =>
    .ret r_1)
    (.ret false))
   (.ret false))
   (.ret false))
  (.ret false))
  (.ret false))
 (.ret false))
 (.ret false)
def msg_SameAsk := fun a b => (msg_SameAsk_t n_ a b).get
def cache_Same_t (a : TCache) (b : TCache) : Tree Bool :=
 .ite (a.Mode == b.Mode) (.ite (a.Until == b.Until) (.ite (a.Ver == b.Ver) (.ite (a.Body == b.Body) (.opt (slices_Equal_Write n_ a.Dirty b.Dirty) fun r_1 =>
   .ite r_1 (.ite (a.Sent == b.Sent) (.ite (a.Called == b.Called) (.ret (a.Lost == b.Lost))
    (.ret false))
   (.ret false))
   (.ret false))
  (.ret false))
  (.ret false))
 (.ret false))
 (.ret false)
def cache_Same := fun a b => (cache_Same_t n_ a b).get
def slices_EqualFunc_Cache_s0t (s2 : List TCache) (t15 : List TCache) (t16 : Int) (v_ : Int) : Tree (Int ⊕ ((TCache × TCache) ⊕ Unit)) :=
 .ite (decide (v_ < t16)) (.ite (inR v_ t15.length) (.opt (t15[v_.toNat]?) fun y_1 =>
  .ite (inR v_ s2.length) (.opt (s2[v_.toNat]?) fun y_2 =>
  .opt (cache_Same n_ y_1 y_2) fun r_3 =>
  .ite (!r_3) (.ret (.inr (.inl (y_1, y_2))))
  (.ret (.inl (wi64 (v_ + 1))))) .fail) .fail)
 (.ret (.inr (.inr ())))
def slices_EqualFunc_Cache_s0 := fun s2 t15 t16 v_ => (slices_EqualFunc_Cache_s0t n_ s2 t15 t16 v_).get
def slices_EqualFunc_Cache_l0 := fun s2 t15 t16 t17 => iter (slices_EqualFunc_Cache_s0 n_ s2 t15 t16) n_ t17
def slices_EqualFunc_Cache_t (s1 : List TCache) (s2 : List TCache) : Tree Bool :=
 .ite ((s1.length : Int) != (s2.length : Int)) (.ret false)
 (.opt (slices_EqualFunc_Cache_l0 n_ s2 s1 (s1.length : Int) 0) fun r_1 =>
 altT r_1 (fun a_2 =>
 .ret false) fun b_3 =>
 .ret true)
def slices_EqualFunc_Cache := fun s1 s2 => (slices_EqualFunc_Cache_t n_ s1 s2).get
def slices_Equal_string_s0t (s1 : List (List UInt8)) (s2 : List (List UInt8)) (t12 : Int) (v_ : Int) : Tree (Int ⊕ (Unit ⊕ Unit)) :=
 .ite (decide (v_ < t12)) (.ite (inR v_ s1.length) (.opt (s1[v_.toNat]?) fun y_1 =>
  .ite (inR v_ s2.length) (.opt (s2[v_.toNat]?) fun y_2 =>
  .ite (!(y_1 == y_2)) (.ret (.inr (.inl ())))
  (.ret (.inl (wi64 (v_ + 1))))) .fail) .fail)
 (.ret (.inr (.inr ())))
def slices_Equal_string_s0 := fun s1 s2 t12 v_ => (slices_Equal_string_s0t s1 s2 t12 v_).get
def slices_Equal_string_l0 := fun s1 s2 t12 t13 => iter (slices_Equal_string_s0 s1 s2 t12) n_ t13
def slices_Equal_string_t (s1 : List (List UInt8)) (s2 : List (List UInt8)) : Tree Bool :=
 .ite ((s1.length : Int) != (s2.length : Int)) (.ret false)
 (.opt (slices_Equal_string_l0 n_ s1 s2 (s1.length : Int) 0) fun r_1 =>
 altT r_1 (fun a_2 =>
 .ret false) fun b_3 =>
 .ret true)
def slices_Equal_string := fun s1 s2 => (slices_Equal_string_t n_ s1 s2).get
def client_Same_t (a : TClient) (b : TClient) : Tree Bool :=
 .ite (a.ID != b.ID) (.ret false)
 (.ite (a.Now != b.Now) (.ret false)
 (.ite (a.Epoch != b.Epoch) (.ret false)
 (.ite (a.Seq != b.Seq) (.ret false)
 (.ite (a.Bad != b.Bad) (.ret false)
 (.ite (a.Hits != b.Hits) (.ret false)
 (.ite (a.Asks != b.Asks) (.ret false)
 (.ite (!(a.Out.Is == b.Out.Is)) (.ret false)
 (.ite (a.Out.First != b.Out.First) (.ret false)
 (.ite (a.Out.Last != b.Out.Last) (.ret false)
 (.opt (msg_SameAsk n_ a.Out.Ask b.Out.Ask) fun r_1 =>
 .ite (!r_1) (.ret false)
 (.opt (slices_EqualFunc_Cache n_ a.Files b.Files) fun r_2 =>
 .ite r_2 (.opt (slices_Equal_string n_ a.Names b.Names) fun r_3 =>
 .ret r_3)
 (.ret false))))))))))))
def client_Same := fun a b => (client_Same_t n_ a b).get
def client_Crash (c : TClient) : TClient := ({ c with ID := (client_New c.ID).ID, Files := (client_New c.ID).Files, Names := (client_New c.ID).Names, Out := (client_New c.ID).Out })
def law20_begun_t : Tree Bool :=
 .opt (client_Do n_ (client_New 1) (TStep.mk 4 1 0 2 0 0 0 [] [])) fun r_1 =>
 .opt (ref13_PutTell n_ (TTell.mk 1 1 0 1 0 2 1 1 [98])) fun r_2 =>
 .opt (client_Comes n_ r_1.1 r_2) fun r_3 =>
 .opt (client_Do n_ r_3.1 (TStep.mk 4 1 0 2 0 0 0 [] [])) fun r_4 =>
 .opt (client_Run n_ r_1.1) fun r_5 =>
 .ite (((client_New 1).Files.length : Int) == 6) (.ite (r_1.2.1.Err == 5) (.ite ((r_1.2.2.length : Int) == 1) (.ite (inR 0 r_1.2.2.length) (.opt (r_1.2.2[0]?) fun y_6 =>
   .ite (y_6.Mode == 1) (.ite r_1.1.Out.Is (.ite ((r_3.2.length : Int) == 0) (.ite (!r_3.1.Out.Is) (.ite (r_4.2.1.Err == 0) (.ite (r_4.2.1.Body == [98]) (.ite ((r_4.2.2.length : Int) == 0) (.ite (r_4.1.Hits == 1) (.ite ((r_5.2.length : Int) == 0) (.opt (client_Same n_ r_5.1 r_1.1) fun r_7 =>
       .ite r_7 (.ret (((client_Crash r_3.1).Files.length : Int) == 6))
       (.ret false))
       (.ret false))
      (.ret false))
      (.ret false))
     (.ret false))
     (.ret false))
    (.ret false))
    (.ret false))
   (.ret false))
   (.ret false)) .fail)
  (.ret false))
 (.ret false))
 (.ret false)
def law20_begun := (law20_begun_t n_).get
def law20_deed_t (c : TClient) (d : List UInt8) : Tree (TStep × List UInt8 × Int) :=
 .opt (d[1]?) fun y_1 =>
 .opt (d[0]?) fun y_2 =>
 .ite ((i8 (b8 ((i8 y_2).tmod 12))) == 0) (.opt (d[1]?) fun y_3 =>
 .ret ((TStep.mk 0 0 0 0 0 0 0 [] []), [], (wi64 (1 + (wi64 (i8 (b8 ((i8 y_3).tmod 20))))))))
 (.ite ((i8 (b8 ((i8 y_2).tmod 12))) == 1) (.ret ((TStep.mk 2 0 0 0 0 0 0 [] []), [], 0))
 (.ite ((i8 (b8 ((i8 y_2).tmod 12))) == 2) (.opt (d[2]?) fun y_4 =>
 .ite (inR (i8 (b8 ((i8 y_4).tmod 7))) 7) (.opt ([4, 5, 5, 6, 7, 8, 3][(i8 (b8 ((i8 y_4).tmod 7))).toNat]?) fun y_5 =>
  .opt (d[3]?) fun y_6 =>
  .ite (y_5 == 3) (.opt (d[3]?) fun y_7 =>
  .ite (inR (i8 (b8 ((i8 y_7).tmod 3))) 3) (.opt ([[97], [98], []][(i8 (b8 ((i8 y_7).tmod 3))).toNat]?) fun y_8 =>
   .ret ((TStep.mk y_5 c.ID 0 (wi64 (1 + (wi64 (i8 (b8 ((i8 y_1).tmod 2)))))) (wi64 (i8 (b8 ((i8 y_6).tmod 9)))) 0 0 y_8 []), [], 0)) .fail)
  (.ret ((TStep.mk y_5 c.ID 0 (wi64 (1 + (wi64 (i8 (b8 ((i8 y_1).tmod 2)))))) (wi64 (i8 (b8 ((i8 y_6).tmod 9)))) 0 0 [116] []), [], 0))) .fail)
 (.ite ((i8 (b8 ((i8 y_2).tmod 12))) == 3) (.opt (d[2]?) fun y_9 =>
 .ite (inR (i8 (b8 ((i8 y_9).tmod 7))) 7) (.opt ([4, 5, 5, 6, 7, 8, 3][(i8 (b8 ((i8 y_9).tmod 7))).toNat]?) fun y_10 =>
  .opt (d[3]?) fun y_11 =>
  .ite (y_10 == 3) (.opt (d[3]?) fun y_12 =>
  .ite (inR (i8 (b8 ((i8 y_12).tmod 3))) 3) (.opt ([[97], [98], []][(i8 (b8 ((i8 y_12).tmod 3))).toNat]?) fun y_13 =>
   .ret ((TStep.mk y_10 c.ID 0 (wi64 (1 + (wi64 (i8 (b8 ((i8 y_1).tmod 2)))))) (wi64 (i8 (b8 ((i8 y_11).tmod 9)))) 0 0 y_13 []), [], 0)) .fail)
  (.ret ((TStep.mk y_10 c.ID 0 (wi64 (1 + (wi64 (i8 (b8 ((i8 y_1).tmod 2)))))) (wi64 (i8 (b8 ((i8 y_11).tmod 9)))) 0 0 [116] []), [], 0))) .fail)
 (.ite ((i8 (b8 ((i8 y_2).tmod 12))) == 4) (.opt (d[2]?) fun y_14 =>
 .ite (inR (i8 (b8 ((i8 y_14).tmod 7))) 7) (.opt ([4, 5, 5, 6, 7, 8, 3][(i8 (b8 ((i8 y_14).tmod 7))).toNat]?) fun y_15 =>
  .opt (d[3]?) fun y_16 =>
  .ite (y_15 == 3) (.opt (d[3]?) fun y_17 =>
  .ite (inR (i8 (b8 ((i8 y_17).tmod 3))) 3) (.opt ([[97], [98], []][(i8 (b8 ((i8 y_17).tmod 3))).toNat]?) fun y_18 =>
   .ret ((TStep.mk y_15 c.ID 0 (wi64 (1 + (wi64 (i8 (b8 ((i8 y_1).tmod 2)))))) (wi64 (i8 (b8 ((i8 y_16).tmod 9)))) 0 0 y_18 []), [], 0)) .fail)
  (.ret ((TStep.mk y_15 c.ID 0 (wi64 (1 + (wi64 (i8 (b8 ((i8 y_1).tmod 2)))))) (wi64 (i8 (b8 ((i8 y_16).tmod 9)))) 0 0 [116] []), [], 0))) .fail)
 (.ite ((i8 (b8 ((i8 y_2).tmod 12))) == 5) (.opt (d[2]?) fun y_19 =>
 .ite (inR (i8 (b8 ((i8 y_19).tmod 7))) 7) (.opt ([4, 5, 5, 6, 7, 8, 3][(i8 (b8 ((i8 y_19).tmod 7))).toNat]?) fun y_20 =>
  .opt (d[3]?) fun y_21 =>
  .ite (y_20 == 3) (.opt (d[3]?) fun y_22 =>
  .ite (inR (i8 (b8 ((i8 y_22).tmod 3))) 3) (.opt ([[97], [98], []][(i8 (b8 ((i8 y_22).tmod 3))).toNat]?) fun y_23 =>
   .ret ((TStep.mk y_20 c.ID 0 (wi64 (1 + (wi64 (i8 (b8 ((i8 y_1).tmod 2)))))) (wi64 (i8 (b8 ((i8 y_21).tmod 9)))) 0 0 y_23 []), [], 0)) .fail)
  (.ret ((TStep.mk y_20 c.ID 0 (wi64 (1 + (wi64 (i8 (b8 ((i8 y_1).tmod 2)))))) (wi64 (i8 (b8 ((i8 y_21).tmod 9)))) 0 0 [116] []), [], 0))) .fail)
 (.ite ((i8 (b8 ((i8 y_2).tmod 12))) == 6) (.opt (d[2]?) fun y_24 =>
 .ite (inR (i8 (b8 ((i8 y_24).tmod 7))) 7) (.opt ([4, 5, 5, 6, 7, 8, 3][(i8 (b8 ((i8 y_24).tmod 7))).toNat]?) fun y_25 =>
  .opt (d[3]?) fun y_26 =>
  .ite (y_25 == 3) (.opt (d[3]?) fun y_27 =>
  .ite (inR (i8 (b8 ((i8 y_27).tmod 3))) 3) (.opt ([[97], [98], []][(i8 (b8 ((i8 y_27).tmod 3))).toNat]?) fun y_28 =>
   .ret ((TStep.mk y_25 c.ID 0 (wi64 (1 + (wi64 (i8 (b8 ((i8 y_1).tmod 2)))))) (wi64 (i8 (b8 ((i8 y_26).tmod 9)))) 0 0 y_28 []), [], 0)) .fail)
  (.ret ((TStep.mk y_25 c.ID 0 (wi64 (1 + (wi64 (i8 (b8 ((i8 y_1).tmod 2)))))) (wi64 (i8 (b8 ((i8 y_26).tmod 9)))) 0 0 [116] []), [], 0))) .fail)
 (.ite ((i8 (b8 ((i8 y_2).tmod 12))) == 7) (.opt (d[2]?) fun y_29 =>
 .ite ((i8 (b8 ((i8 y_29).tmod 4))) == 0) (.opt (d[3]?) fun y_30 =>
  .opt (ref13_PutTell n_ (TTell.mk 3 c.ID (wi64 (c.Epoch + (wi64 (i8 (b8 ((i8 y_30).tmod 3)))))) 0 0 0 0 0 [])) fun r_31 =>
  .ret ((TStep.mk 0 0 0 0 0 0 0 [] []), r_31, 0))
 (.opt (ref13_PutTell n_ (TTell.mk 2 c.ID c.Epoch 0 0 (wi64 (1 + (wi64 (i8 (b8 ((i8 y_1).tmod 2)))))) 0 0 [])) fun r_32 =>
 .ret ((TStep.mk 0 0 0 0 0 0 0 [] []), r_32, 0)))
 (.opt (d[3]?) fun y_33 =>
 .opt (d[2]?) fun y_34 =>
 .ite (inR (i8 (b8 ((i8 y_34).tmod 6))) 6) (.opt ([0, 0, 0, 6, 7, 2][(i8 (b8 ((i8 y_34).tmod 6))).toNat]?) fun y_35 =>
 .opt (d[2]?) fun y_36 =>
 .ite ((i8 (b8 ((i8 y_36).tmod 16))) == 15) (.opt (ref13_PutTell n_ (TTell.mk 1 c.ID c.Epoch (wi64 ((imax c.Out.Ask.Seq 1) + 1)) y_35 (imax c.Out.Ask.File 1) (imax c.Out.Ask.Mode (wi64 (i8 (b8 ((i8 y_33).tmod 3))))) 3 [98, 111, 100, 121])) fun r_37 =>
  .ret ((TStep.mk 0 0 0 0 0 0 0 [] []), r_37, 0))
 (.opt (ref13_PutTell n_ (TTell.mk 1 c.ID c.Epoch (imax c.Out.Ask.Seq 1) y_35 (imax c.Out.Ask.File 1) (imax c.Out.Ask.Mode (wi64 (i8 (b8 ((i8 y_33).tmod 3))))) 3 [98, 111, 100, 121])) fun r_38 =>
 .ret ((TStep.mk 0 0 0 0 0 0 0 [] []), r_38, 0))) .fail))))))))
def law20_deed := fun c d => (law20_deed_t n_ c d).get
def ref7_MayName_s0t (s : List UInt8) (v_ : Int) : Tree (Int ⊕ (Unit ⊕ Unit)) :=
 .ite (decide (v_ < (s.length : Int))) (.ite (inR v_ s.length) (.opt (s[v_.toNat]?) fun y_1 =>
  .ite (decide ((i8 y_1) < 33)) (.ret (.inr (.inl ())))
  (.ite (inR v_ s.length) (.opt (s[v_.toNat]?) fun y_2 =>
  .ite (decide ((i8 y_2) > 126)) (.ret (.inr (.inl ())))
  (.ret (.inl (wi64 (v_ + 1))))) .fail)) .fail)
 (.ret (.inr (.inr ())))
def ref7_MayName_s0 := fun s v_ => (ref7_MayName_s0t s v_).get
def ref7_MayName_l0 := fun s i => iter (ref7_MayName_s0 s) n_ i
def ref7_MayName_t (s : List UInt8) : Tree Bool :=
 .opt (ref7_MayName_l0 n_ s 0) fun r_1 =>
 altT r_1 (fun a_2 =>
 .ret false) fun b_3 =>
 .ite (decide ((s.length : Int) ≥ 1)) (.ret (decide ((s.length : Int) ≤ 8)))
 (.ret false)
def ref7_MayName := fun s => (ref7_MayName_t n_ s).get
def ref7_SameWrites_s0t (a : List TWrite) (b : List TWrite) (v_ : Int) : Tree (Int ⊕ (Unit ⊕ Unit)) :=
 .ite (decide (v_ < (a.length : Int))) (.ite (inR v_ a.length) (.opt (a[v_.toNat]?) fun y_1 =>
  .ite (inR v_ b.length) (.opt (b[v_.toNat]?) fun y_2 =>
  .ite (!(TWrite.eqb y_1 y_2)) (.ret (.inr (.inl ())))
  (.ret (.inl (wi64 (v_ + 1))))) .fail) .fail)
 (.ret (.inr (.inr ())))
def ref7_SameWrites_s0 := fun a b v_ => (ref7_SameWrites_s0t a b v_).get
def ref7_SameWrites_l0 := fun a b i => iter (ref7_SameWrites_s0 a b) n_ i
def ref7_SameWrites_t (a : List TWrite) (b : List TWrite) : Tree Bool :=
 .ite ((a.length : Int) != (b.length : Int)) (.ret false)
 (.opt (ref7_SameWrites_l0 n_ a b 0) fun r_1 =>
 altT r_1 (fun a_2 =>
 .ret false) fun b_3 =>
 .ret true)
def ref7_SameWrites := fun a b => (ref7_SameWrites_t n_ a b).get
def ref13_SameAsk_t (a : TAsk) (b : TAsk) : Tree Bool :=
 .ite (a.Kind == b.Kind) (.ite (a.From == b.From) (.ite (a.Epoch == b.Epoch) (.ite (a.Seq == b.Seq) (.ite (a.Name == b.Name) (.ite (a.File == b.File) (.ite (a.Mode == b.Mode) (.opt (ref7_SameWrites n_ a.Writes b.Writes) fun r_1 =>
    .ret r_1)
    (.ret false))
   (.ret false))
   (.ret false))
  (.ret false))
  (.ret false))
 (.ret false))
 (.ret false)
def ref13_SameAsk := fun a b => (ref13_SameAsk_t n_ a b).get
def ref7_MayWrite_t (w : TWrite) : TT Bool :=
 .ite (decide (w.Off ≥ 0)) (.ite (decide (w.Off < 24)) (.ite (decide ((w.B.length : Int) ≥ 1)) (.ret (decide ((w.B.length : Int) ≤ (wi64 (24 - w.Off)))))
  (.ret false))
 (.ret false))
 (.ret false)
def ref7_MayWrite := fun w => (ref7_MayWrite_t w).val
def ref13_MayAsk_s0t (a : TAsk) (x : TAsk) (v_ : Bool × Int) : Tree ((Bool × Int) ⊕ Bool) :=
 .ite (decide (v_.2 < (a.Writes.length : Int))) (.ite v_.1 (.ite (inR v_.2 a.Writes.length) (.opt (a.Writes[v_.2.toNat]?) fun y_1 =>
  .ret (.inl ((ref7_MayWrite y_1), (wi64 (v_.2 + 1))))) .fail)
 (.ret (.inl (false, (wi64 (v_.2 + 1))))))
 (.ret (.inr v_.1))
def ref13_MayAsk_s0 := fun a x v_ => (ref13_MayAsk_s0t a x v_).get
def ref13_MayAsk_l0 := fun a x ok i => iter (ref13_MayAsk_s0 a x) n_ (ok, i)
def ref13_MayAsk_t (a : TAsk) : Tree Bool :=
 .ite (decide (a.Kind < 1)) (.ret false)
 (.ite (decide (a.Kind > 5)) (.ret false)
 (.ite (decide (a.From < 1)) (.ret false)
 (.ite (decide (a.From > 3)) (.ret false)
 (.ite (!(ref13_num a.Epoch 0)) (.ret false)
 (.ite (!(ref13_num a.Seq 1)) (.ret false)
 (.ite (a.Kind == 1) (.opt (ref7_MayName n_ a.Name) fun r_1 =>
 .ite r_1 (.opt (ref13_SameAsk n_ { a with File := 0, Mode := 0, Writes := [] } a) fun r_2 =>
  .ret r_2)
 (.ret false))
 (.ite (decide (a.File ≥ 1)) (.ite (a.Kind == 2) (.ite (decide (a.File ≤ 6)) (.ite (a.Mode == 1) (.opt (ref13_SameAsk n_ { a with Name := [], Writes := [] } a) fun r_3 =>
   .ret r_3)
  (.ite (a.Mode == 2) (.opt (ref13_SameAsk n_ { a with Name := [], Writes := [] } a) fun r_4 =>
   .ret r_4)
  (.ret false)))
  (.ret false))
 (.ite (a.Kind == 3) (.ite (decide (a.File ≤ 6)) (.ite (decide ((a.Writes.length : Int) ≤ 5)) (.ite (decide ((a.Writes.length : Int) > 0)) (.opt (ref13_MayAsk_l0 n_ a { a with Name := [], Mode := 0 } true 0) fun r_5 =>
   .ite r_5 (.opt (ref13_SameAsk n_ { a with Name := [], Mode := 0 } a) fun r_6 =>
    .ret r_6)
   (.ret false))
   (.opt (ref13_MayAsk_l0 n_ a { a with Name := [], Mode := 0 } (a.Kind == 4) 0) fun r_7 =>
   .ite r_7 (.opt (ref13_SameAsk n_ { a with Name := [], Mode := 0 } a) fun r_8 =>
   .ret r_8)
   (.ret false)))
  (.opt (ref13_MayAsk_l0 n_ a { a with Name := [], Mode := 0 } false 0) fun r_9 =>
  .ite r_9 (.opt (ref13_SameAsk n_ { a with Name := [], Mode := 0 } a) fun r_10 =>
   .ret r_10)
  (.ret false)))
  (.opt (ref13_MayAsk_l0 n_ a { a with Name := [], Mode := 0 } false 0) fun r_11 =>
  .ite r_11 (.opt (ref13_SameAsk n_ { a with Name := [], Mode := 0 } a) fun r_12 =>
  .ret r_12)
  (.ret false)))
 (.ite (a.Kind == 4) (.ite (decide (a.File ≤ 6)) (.ite (decide ((a.Writes.length : Int) ≤ 5)) (.ite (decide ((a.Writes.length : Int) > 0)) (.opt (ref13_MayAsk_l0 n_ a { a with Name := [], Mode := 0 } true 0) fun r_13 =>
   .ite r_13 (.opt (ref13_SameAsk n_ { a with Name := [], Mode := 0 } a) fun r_14 =>
    .ret r_14)
   (.ret false))
   (.opt (ref13_MayAsk_l0 n_ a { a with Name := [], Mode := 0 } (a.Kind == 4) 0) fun r_15 =>
   .ite r_15 (.opt (ref13_SameAsk n_ { a with Name := [], Mode := 0 } a) fun r_16 =>
   .ret r_16)
   (.ret false)))
  (.opt (ref13_MayAsk_l0 n_ a { a with Name := [], Mode := 0 } false 0) fun r_17 =>
  .ite r_17 (.opt (ref13_SameAsk n_ { a with Name := [], Mode := 0 } a) fun r_18 =>
   .ret r_18)
  (.ret false)))
  (.opt (ref13_MayAsk_l0 n_ a { a with Name := [], Mode := 0 } false 0) fun r_19 =>
  .ite r_19 (.opt (ref13_SameAsk n_ { a with Name := [], Mode := 0 } a) fun r_20 =>
  .ret r_20)
  (.ret false)))
 (.ite (decide (a.File ≤ 6)) (.opt (ref13_SameAsk n_ { a with Name := [], Mode := 0, Writes := [] } a) fun r_21 =>
  .ret r_21)
 (.ret false)))))
 (.ite (a.Kind == 2) (.ret false)
 (.ite (a.Kind == 3) (.opt (ref13_MayAsk_l0 n_ a { a with Name := [], Mode := 0 } false 0) fun r_22 =>
 .ite r_22 (.opt (ref13_SameAsk n_ { a with Name := [], Mode := 0 } a) fun r_23 =>
  .ret r_23)
 (.ret false))
 (.ite (a.Kind == 4) (.opt (ref13_MayAsk_l0 n_ a { a with Name := [], Mode := 0 } false 0) fun r_24 =>
 .ite r_24 (.opt (ref13_SameAsk n_ { a with Name := [], Mode := 0 } a) fun r_25 =>
  .ret r_25)
 (.ret false))
 (.ret false)))))))))))
def ref13_MayAsk := fun a => (ref13_MayAsk_t n_ a).get
def law20_ClientOne_s0t (l : List (List UInt8)) (v_ : Int × TClient) : Tree ((Int × TClient) ⊕ ((TClient × TStep × TClient) ⊕ ((TClient × TStep × TClient) ⊕ TClient))) :=
 .ite (decide (v_.1 < (l.length : Int))) (.ite (inR v_.1 l.length) (.opt (l[v_.1.toNat]?) fun y_1 =>
  .opt (law20_deed n_ v_.2 y_1) fun r_2 =>
  .ite (decide (r_2.2.2 > 0)) (.ite (decide (v_.2.Seq < v_.2.Seq)) (.ret (.inr (.inl ({ v_.2 with Now := (wi64 (v_.2.Now + r_2.2.2)) }, r_2.1, v_.2))))
  (.ite (decide (v_.2.Seq > (wi64 (v_.2.Seq + 1)))) (.ret (.inr (.inl ({ v_.2 with Now := (wi64 (v_.2.Now + r_2.2.2)) }, r_2.1, v_.2))))
  (.ite (decide (v_.2.Seq > v_.2.Seq)) (.ret (.inr (.inl ({ v_.2 with Now := (wi64 (v_.2.Now + r_2.2.2)) }, r_2.1, v_.2))))
  (.ite ((v_.2.Files.length : Int) != 6) (.ret (.inr (.inl ({ v_.2 with Now := (wi64 (v_.2.Now + r_2.2.2)) }, r_2.1, v_.2))))
  (.ite v_.2.Out.Is (.ite v_.2.Out.Is (.ite (v_.2.Out.Ask.Seq != v_.2.Out.Ask.Seq) (.ite ((r_2.2.1.length : Int) == 0) (.ret (.inr (.inl ({ v_.2 with Now := (wi64 (v_.2.Now + r_2.2.2)) }, r_2.1, v_.2))))
    (.ret (.inl ((wi64 (v_.1 + 1)), { v_.2 with Now := (wi64 (v_.2.Now + r_2.2.2)) }))))
   (.ret (.inl ((wi64 (v_.1 + 1)), { v_.2 with Now := (wi64 (v_.2.Now + r_2.2.2)) }))))
   (.ret (.inl ((wi64 (v_.1 + 1)), { v_.2 with Now := (wi64 (v_.2.Now + r_2.2.2)) }))))
  (.ret (.inl ((wi64 (v_.1 + 1)), { v_.2 with Now := (wi64 (v_.2.Now + r_2.2.2)) }))))))))
  (.ite (decide ((r_2.2.1.length : Int) > 0)) (.opt (client_Comes n_ v_.2 r_2.2.1) fun r_3 =>
  .ite (decide ((r_3.2.length : Int) > 1)) (.ret (.inr (.inr (.inl (r_3.1, r_2.1, v_.2)))))
  (.ite (decide (r_3.1.Seq < v_.2.Seq)) (.ret (.inr (.inr (.inl (r_3.1, r_2.1, v_.2)))))
  (.ite (decide (r_3.1.Seq > (wi64 (v_.2.Seq + 1)))) (.ret (.inr (.inr (.inl (r_3.1, r_2.1, v_.2)))))
  (.ite (decide (r_3.1.Seq > v_.2.Seq)) (.ite ((r_3.2.length : Int) != 1) (.ret (.inr (.inr (.inl (r_3.1, r_2.1, v_.2)))))
   (.ite ((r_3.1.Files.length : Int) != 6) (.ret (.inr (.inr (.inl (r_3.1, r_2.1, v_.2)))))
   (.ite ((r_3.2.length : Int) == 1) (.ite (inR 0 r_3.2.length) (.opt (r_3.2[0]?) fun y_4 =>
    .opt (ref13_MayAsk n_ y_4) fun r_5 =>
    .ite (!r_5) (.ret (.inr (.inr (.inl (r_3.1, r_2.1, v_.2)))))
    (.ite (inR 0 r_3.2.length) (.opt (r_3.2[0]?) fun y_6 =>
    .ite (y_6.From != r_3.1.ID) (.ret (.inr (.inr (.inl (r_3.1, r_2.1, v_.2)))))
    (.ite (inR 0 r_3.2.length) (.opt (r_3.2[0]?) fun y_7 =>
     .ite (y_7.Epoch != r_3.1.Epoch) (.ret (.inr (.inr (.inl (r_3.1, r_2.1, v_.2)))))
     (.ite (inR 0 r_3.2.length) (.opt (r_3.2[0]?) fun y_8 =>
     .ite (y_8.Seq != r_3.1.Seq) (.ret (.inr (.inr (.inl (r_3.1, r_2.1, v_.2)))))
     (.ite (!r_3.1.Out.Is) (.ret (.inr (.inr (.inl (r_3.1, r_2.1, v_.2)))))
     (.ite (inR 0 r_3.2.length) (.opt (r_3.2[0]?) fun y_9 =>
      .opt (ref13_SameAsk n_ r_3.1.Out.Ask y_9) fun r_10 =>
      .ite (!r_10) (.ret (.inr (.inr (.inl (r_3.1, r_2.1, v_.2)))))
      (.ite r_3.1.Out.Is (.ite v_.2.Out.Is (.ite (r_3.1.Out.Ask.Seq != v_.2.Out.Ask.Seq) (.ite ((r_2.2.1.length : Int) == 0) (.ret (.inr (.inr (.inl (r_3.1, r_2.1, v_.2)))))
       (.ret (.inl ((wi64 (v_.1 + 1)), r_3.1))))
       (.ret (.inl ((wi64 (v_.1 + 1)), r_3.1))))
      (.ret (.inl ((wi64 (v_.1 + 1)), r_3.1))))
      (.ret (.inl ((wi64 (v_.1 + 1)), r_3.1))))) .fail))) .fail)) .fail)) .fail)) .fail)
   (.ite r_3.1.Out.Is (.ite v_.2.Out.Is (.ite (r_3.1.Out.Ask.Seq != v_.2.Out.Ask.Seq) (.ite ((r_2.2.1.length : Int) == 0) (.ret (.inr (.inr (.inl (r_3.1, r_2.1, v_.2)))))
    (.ret (.inl ((wi64 (v_.1 + 1)), r_3.1))))
    (.ret (.inl ((wi64 (v_.1 + 1)), r_3.1))))
   (.ret (.inl ((wi64 (v_.1 + 1)), r_3.1))))
   (.ret (.inl ((wi64 (v_.1 + 1)), r_3.1)))))))
  (.ite ((r_3.1.Files.length : Int) != 6) (.ret (.inr (.inr (.inl (r_3.1, r_2.1, v_.2)))))
  (.ite ((r_3.2.length : Int) == 1) (.ite (inR 0 r_3.2.length) (.opt (r_3.2[0]?) fun y_11 =>
   .opt (ref13_MayAsk n_ y_11) fun r_12 =>
   .ite (!r_12) (.ret (.inr (.inr (.inl (r_3.1, r_2.1, v_.2)))))
   (.ite (inR 0 r_3.2.length) (.opt (r_3.2[0]?) fun y_13 =>
    .ite (y_13.From != r_3.1.ID) (.ret (.inr (.inr (.inl (r_3.1, r_2.1, v_.2)))))
    (.ite (inR 0 r_3.2.length) (.opt (r_3.2[0]?) fun y_14 =>
    .ite (y_14.Epoch != r_3.1.Epoch) (.ret (.inr (.inr (.inl (r_3.1, r_2.1, v_.2)))))
    (.ite (inR 0 r_3.2.length) (.opt (r_3.2[0]?) fun y_15 =>
     .ite (y_15.Seq != r_3.1.Seq) (.ret (.inr (.inr (.inl (r_3.1, r_2.1, v_.2)))))
     (.ite (!r_3.1.Out.Is) (.ret (.inr (.inr (.inl (r_3.1, r_2.1, v_.2)))))
     (.ite (inR 0 r_3.2.length) (.opt (r_3.2[0]?) fun y_16 =>
     .opt (ref13_SameAsk n_ r_3.1.Out.Ask y_16) fun r_17 =>
     .ite (!r_17) (.ret (.inr (.inr (.inl (r_3.1, r_2.1, v_.2)))))
     (.ite r_3.1.Out.Is (.ite v_.2.Out.Is (.ite (r_3.1.Out.Ask.Seq != v_.2.Out.Ask.Seq) (.ite ((r_2.2.1.length : Int) == 0) (.ret (.inr (.inr (.inl (r_3.1, r_2.1, v_.2)))))
       (.ret (.inl ((wi64 (v_.1 + 1)), r_3.1))))
      (.ret (.inl ((wi64 (v_.1 + 1)), r_3.1))))
      (.ret (.inl ((wi64 (v_.1 + 1)), r_3.1))))
     (.ret (.inl ((wi64 (v_.1 + 1)), r_3.1))))) .fail))) .fail)) .fail)) .fail)) .fail)
  (.ite r_3.1.Out.Is (.ite v_.2.Out.Is (.ite (r_3.1.Out.Ask.Seq != v_.2.Out.Ask.Seq) (.ite ((r_2.2.1.length : Int) == 0) (.ret (.inr (.inr (.inl (r_3.1, r_2.1, v_.2)))))
    (.ret (.inl ((wi64 (v_.1 + 1)), r_3.1))))
   (.ret (.inl ((wi64 (v_.1 + 1)), r_3.1))))
   (.ret (.inl ((wi64 (v_.1 + 1)), r_3.1))))
  (.ret (.inl ((wi64 (v_.1 + 1)), r_3.1))))))))))
  (.ite (r_2.1.Kind == 2) (.opt (client_Run n_ v_.2) fun r_18 =>
  .ite (decide ((r_18.2.length : Int) > 1)) (.ret (.inr (.inr (.inl (r_18.1, r_2.1, v_.2)))))
  (.ite (decide (r_18.1.Seq < v_.2.Seq)) (.ret (.inr (.inr (.inl (r_18.1, r_2.1, v_.2)))))
  (.ite (decide (r_18.1.Seq > (wi64 (v_.2.Seq + 1)))) (.ret (.inr (.inr (.inl (r_18.1, r_2.1, v_.2)))))
  (.ite (decide (r_18.1.Seq > v_.2.Seq)) (.ite ((r_18.2.length : Int) != 1) (.ret (.inr (.inr (.inl (r_18.1, r_2.1, v_.2)))))
   (.ite ((r_18.1.Files.length : Int) != 6) (.ret (.inr (.inr (.inl (r_18.1, r_2.1, v_.2)))))
   (.ite ((r_18.2.length : Int) == 1) (.ite (inR 0 r_18.2.length) (.opt (r_18.2[0]?) fun y_19 =>
    .opt (ref13_MayAsk n_ y_19) fun r_20 =>
    .ite (!r_20) (.ret (.inr (.inr (.inl (r_18.1, r_2.1, v_.2)))))
    (.ite (inR 0 r_18.2.length) (.opt (r_18.2[0]?) fun y_21 =>
    .ite (y_21.From != r_18.1.ID) (.ret (.inr (.inr (.inl (r_18.1, r_2.1, v_.2)))))
    (.ite (inR 0 r_18.2.length) (.opt (r_18.2[0]?) fun y_22 =>
     .ite (y_22.Epoch != r_18.1.Epoch) (.ret (.inr (.inr (.inl (r_18.1, r_2.1, v_.2)))))
     (.ite (inR 0 r_18.2.length) (.opt (r_18.2[0]?) fun y_23 =>
     .ite (y_23.Seq != r_18.1.Seq) (.ret (.inr (.inr (.inl (r_18.1, r_2.1, v_.2)))))
     (.ite (!r_18.1.Out.Is) (.ret (.inr (.inr (.inl (r_18.1, r_2.1, v_.2)))))
     (.ite (inR 0 r_18.2.length) (.opt (r_18.2[0]?) fun y_24 =>
      .opt (ref13_SameAsk n_ r_18.1.Out.Ask y_24) fun r_25 =>
      .ite (!r_25) (.ret (.inr (.inr (.inl (r_18.1, r_2.1, v_.2)))))
      (.ite r_18.1.Out.Is (.ite v_.2.Out.Is (.ite (r_18.1.Out.Ask.Seq != v_.2.Out.Ask.Seq) (.ite ((r_2.2.1.length : Int) == 0) (.ret (.inr (.inr (.inl (r_18.1, r_2.1, v_.2)))))
       (.ret (.inl ((wi64 (v_.1 + 1)), r_18.1))))
       (.ret (.inl ((wi64 (v_.1 + 1)), r_18.1))))
      (.ret (.inl ((wi64 (v_.1 + 1)), r_18.1))))
      (.ret (.inl ((wi64 (v_.1 + 1)), r_18.1))))) .fail))) .fail)) .fail)) .fail)) .fail)
   (.ite r_18.1.Out.Is (.ite v_.2.Out.Is (.ite (r_18.1.Out.Ask.Seq != v_.2.Out.Ask.Seq) (.ite ((r_2.2.1.length : Int) == 0) (.ret (.inr (.inr (.inl (r_18.1, r_2.1, v_.2)))))
    (.ret (.inl ((wi64 (v_.1 + 1)), r_18.1))))
    (.ret (.inl ((wi64 (v_.1 + 1)), r_18.1))))
   (.ret (.inl ((wi64 (v_.1 + 1)), r_18.1))))
   (.ret (.inl ((wi64 (v_.1 + 1)), r_18.1)))))))
  (.ite ((r_18.1.Files.length : Int) != 6) (.ret (.inr (.inr (.inl (r_18.1, r_2.1, v_.2)))))
  (.ite ((r_18.2.length : Int) == 1) (.ite (inR 0 r_18.2.length) (.opt (r_18.2[0]?) fun y_26 =>
   .opt (ref13_MayAsk n_ y_26) fun r_27 =>
   .ite (!r_27) (.ret (.inr (.inr (.inl (r_18.1, r_2.1, v_.2)))))
   (.ite (inR 0 r_18.2.length) (.opt (r_18.2[0]?) fun y_28 =>
    .ite (y_28.From != r_18.1.ID) (.ret (.inr (.inr (.inl (r_18.1, r_2.1, v_.2)))))
    (.ite (inR 0 r_18.2.length) (.opt (r_18.2[0]?) fun y_29 =>
    .ite (y_29.Epoch != r_18.1.Epoch) (.ret (.inr (.inr (.inl (r_18.1, r_2.1, v_.2)))))
    (.ite (inR 0 r_18.2.length) (.opt (r_18.2[0]?) fun y_30 =>
     .ite (y_30.Seq != r_18.1.Seq) (.ret (.inr (.inr (.inl (r_18.1, r_2.1, v_.2)))))
     (.ite (!r_18.1.Out.Is) (.ret (.inr (.inr (.inl (r_18.1, r_2.1, v_.2)))))
     (.ite (inR 0 r_18.2.length) (.opt (r_18.2[0]?) fun y_31 =>
     .opt (ref13_SameAsk n_ r_18.1.Out.Ask y_31) fun r_32 =>
     .ite (!r_32) (.ret (.inr (.inr (.inl (r_18.1, r_2.1, v_.2)))))
     (.ite r_18.1.Out.Is (.ite v_.2.Out.Is (.ite (r_18.1.Out.Ask.Seq != v_.2.Out.Ask.Seq) (.ite ((r_2.2.1.length : Int) == 0) (.ret (.inr (.inr (.inl (r_18.1, r_2.1, v_.2)))))
       (.ret (.inl ((wi64 (v_.1 + 1)), r_18.1))))
      (.ret (.inl ((wi64 (v_.1 + 1)), r_18.1))))
      (.ret (.inl ((wi64 (v_.1 + 1)), r_18.1))))
     (.ret (.inl ((wi64 (v_.1 + 1)), r_18.1))))) .fail))) .fail)) .fail)) .fail)) .fail)
  (.ite r_18.1.Out.Is (.ite v_.2.Out.Is (.ite (r_18.1.Out.Ask.Seq != v_.2.Out.Ask.Seq) (.ite ((r_2.2.1.length : Int) == 0) (.ret (.inr (.inr (.inl (r_18.1, r_2.1, v_.2)))))
    (.ret (.inl ((wi64 (v_.1 + 1)), r_18.1))))
   (.ret (.inl ((wi64 (v_.1 + 1)), r_18.1))))
   (.ret (.inl ((wi64 (v_.1 + 1)), r_18.1))))
  (.ret (.inl ((wi64 (v_.1 + 1)), r_18.1))))))))))
  (.opt (client_Do n_ v_.2 r_2.1) fun r_33 =>
  .ite (decide ((r_33.2.2.length : Int) > 1)) (.ret (.inr (.inr (.inl (r_33.1, r_2.1, v_.2)))))
  (.ite (decide (r_33.1.Seq < v_.2.Seq)) (.ret (.inr (.inr (.inl (r_33.1, r_2.1, v_.2)))))
  (.ite (decide (r_33.1.Seq > (wi64 (v_.2.Seq + 1)))) (.ret (.inr (.inr (.inl (r_33.1, r_2.1, v_.2)))))
  (.ite (decide (r_33.1.Seq > v_.2.Seq)) (.ite ((r_33.2.2.length : Int) != 1) (.ret (.inr (.inr (.inl (r_33.1, r_2.1, v_.2)))))
  (.ite ((r_33.1.Files.length : Int) != 6) (.ret (.inr (.inr (.inl (r_33.1, r_2.1, v_.2)))))
  (.ite ((r_33.2.2.length : Int) == 1) (.ite (inR 0 r_33.2.2.length) (.opt (r_33.2.2[0]?) fun y_34 =>
   .opt (ref13_MayAsk n_ y_34) fun r_35 =>
   .ite (!r_35) (.ret (.inr (.inr (.inl (r_33.1, r_2.1, v_.2)))))
   (.ite (inR 0 r_33.2.2.length) (.opt (r_33.2.2[0]?) fun y_36 =>
    .ite (y_36.From != r_33.1.ID) (.ret (.inr (.inr (.inl (r_33.1, r_2.1, v_.2)))))
    (.ite (inR 0 r_33.2.2.length) (.opt (r_33.2.2[0]?) fun y_37 =>
    .ite (y_37.Epoch != r_33.1.Epoch) (.ret (.inr (.inr (.inl (r_33.1, r_2.1, v_.2)))))
    (.ite (inR 0 r_33.2.2.length) (.opt (r_33.2.2[0]?) fun y_38 =>
     .ite (y_38.Seq != r_33.1.Seq) (.ret (.inr (.inr (.inl (r_33.1, r_2.1, v_.2)))))
     (.ite (!r_33.1.Out.Is) (.ret (.inr (.inr (.inl (r_33.1, r_2.1, v_.2)))))
     (.ite (inR 0 r_33.2.2.length) (.opt (r_33.2.2[0]?) fun y_39 =>
     .opt (ref13_SameAsk n_ r_33.1.Out.Ask y_39) fun r_40 =>
     .ite (!r_40) (.ret (.inr (.inr (.inl (r_33.1, r_2.1, v_.2)))))
     (.ite r_33.1.Out.Is (.ite v_.2.Out.Is (.ite (r_33.1.Out.Ask.Seq != v_.2.Out.Ask.Seq) (.ite ((r_2.2.1.length : Int) == 0) (.ret (.inr (.inr (.inl (r_33.1, r_2.1, v_.2)))))
       (.ret (.inl ((wi64 (v_.1 + 1)), r_33.1))))
      (.ret (.inl ((wi64 (v_.1 + 1)), r_33.1))))
      (.ret (.inl ((wi64 (v_.1 + 1)), r_33.1))))
     (.ret (.inl ((wi64 (v_.1 + 1)), r_33.1))))) .fail))) .fail)) .fail)) .fail)) .fail)
  (.ite r_33.1.Out.Is (.ite v_.2.Out.Is (.ite (r_33.1.Out.Ask.Seq != v_.2.Out.Ask.Seq) (.ite ((r_2.2.1.length : Int) == 0) (.ret (.inr (.inr (.inl (r_33.1, r_2.1, v_.2)))))
    (.ret (.inl ((wi64 (v_.1 + 1)), r_33.1))))
   (.ret (.inl ((wi64 (v_.1 + 1)), r_33.1))))
   (.ret (.inl ((wi64 (v_.1 + 1)), r_33.1))))
  (.ret (.inl ((wi64 (v_.1 + 1)), r_33.1)))))))
  (.ite ((r_33.1.Files.length : Int) != 6) (.ret (.inr (.inr (.inl (r_33.1, r_2.1, v_.2)))))
  (.ite ((r_33.2.2.length : Int) == 1) (.ite (inR 0 r_33.2.2.length) (.opt (r_33.2.2[0]?) fun y_41 =>
   .opt (ref13_MayAsk n_ y_41) fun r_42 =>
   .ite (!r_42) (.ret (.inr (.inr (.inl (r_33.1, r_2.1, v_.2)))))
   (.ite (inR 0 r_33.2.2.length) (.opt (r_33.2.2[0]?) fun y_43 =>
   .ite (y_43.From != r_33.1.ID) (.ret (.inr (.inr (.inl (r_33.1, r_2.1, v_.2)))))
   (.ite (inR 0 r_33.2.2.length) (.opt (r_33.2.2[0]?) fun y_44 =>
    .ite (y_44.Epoch != r_33.1.Epoch) (.ret (.inr (.inr (.inl (r_33.1, r_2.1, v_.2)))))
    (.ite (inR 0 r_33.2.2.length) (.opt (r_33.2.2[0]?) fun y_45 =>
    .ite (y_45.Seq != r_33.1.Seq) (.ret (.inr (.inr (.inl (r_33.1, r_2.1, v_.2)))))
    (.ite (!r_33.1.Out.Is) (.ret (.inr (.inr (.inl (r_33.1, r_2.1, v_.2)))))
    (.ite (inR 0 r_33.2.2.length) (.opt (r_33.2.2[0]?) fun y_46 =>
     .opt (ref13_SameAsk n_ r_33.1.Out.Ask y_46) fun r_47 =>
     .ite (!r_47) (.ret (.inr (.inr (.inl (r_33.1, r_2.1, v_.2)))))
     (.ite r_33.1.Out.Is (.ite v_.2.Out.Is (.ite (r_33.1.Out.Ask.Seq != v_.2.Out.Ask.Seq) (.ite ((r_2.2.1.length : Int) == 0) (.ret (.inr (.inr (.inl (r_33.1, r_2.1, v_.2)))))
      (.ret (.inl ((wi64 (v_.1 + 1)), r_33.1))))
      (.ret (.inl ((wi64 (v_.1 + 1)), r_33.1))))
     (.ret (.inl ((wi64 (v_.1 + 1)), r_33.1))))
     (.ret (.inl ((wi64 (v_.1 + 1)), r_33.1))))) .fail))) .fail)) .fail)) .fail)) .fail)
  (.ite r_33.1.Out.Is (.ite v_.2.Out.Is (.ite (r_33.1.Out.Ask.Seq != v_.2.Out.Ask.Seq) (.ite ((r_2.2.1.length : Int) == 0) (.ret (.inr (.inr (.inl (r_33.1, r_2.1, v_.2)))))
   (.ret (.inl ((wi64 (v_.1 + 1)), r_33.1))))
   (.ret (.inl ((wi64 (v_.1 + 1)), r_33.1))))
  (.ret (.inl ((wi64 (v_.1 + 1)), r_33.1))))
  (.ret (.inl ((wi64 (v_.1 + 1)), r_33.1))))))))))))) .fail)
 (.ret (.inr (.inr (.inr v_.2))))
def law20_ClientOne_s0 := fun l v_ => (law20_ClientOne_s0t n_ l v_).get
def law20_ClientOne_l0 := fun l i c => iter (law20_ClientOne_s0 n_ l) n_ (i, c)
def law20_ClientOne_t (l : List (List UInt8)) (who : UInt8) : Tree Bool :=
 .opt (law20_begun n_) fun r_1 =>
 .ite (!r_1) (.ret false)
 (.ite (decide ((l.length : Int) > 80)) (.ret true)
 (.opt (law20_ClientOne_l0 n_ l 0 (client_New (wi64 (1 + (wi64 (i8 (b8 ((i8 who).tmod 3)))))))) fun r_2 =>
 altT r_2 (fun a_3 =>
 .ret false) fun b_4 =>
 altT b_4 (fun a_5 =>
 .ret false) fun b_6 =>
 .ret true))
def law20_ClientOne := fun l who => (law20_ClientOne_t n_ l who).get
end
end Go.Proofs.YthabbcjjecpbmaaGreat.N
