/- The nice functions: what the program's functions come to. -/
import Derived.Test.YtinbnobanikfmaaGreatDoorBase5
set_option linter.unusedVariables false
set_option linter.unusedSimpArgs false
set_option maxRecDepth 10000
namespace Go.Proofs.YtinbnobanikfmaaGreatDoor.N
noncomputable section
variable (n_ : Nat)
@[reducible] def mark_New_k {α : Type} (k0 : (List TMark) → Option α) (n : Int) : Option α :=
  bif (decide (n < 1)) then k0 ([])
  else bif (mkOk n n) then k0 (List.replicate n.toNat (TMark.mk 0 0 0 0))
    else none
def mark_New (n : Int) : Option (List TMark) := mark_New_k (fun x => some x) n
theorem mark_New_bind {α : Type} (k0 : (List TMark) → Option α) (n : Int) : mark_New_k k0 n = (mark_New n).bind k0 := by
  unfold mark_New mark_New_k; simp only [bind_cond, Option.bind_assoc, alt_bind, Option.bind_some, Option.bind_none, alt_inl, alt_inr]
@[reducible] def state_New_k {α : Type} (k0 : TState → Option α) : Option α :=
  ((mark_New 3)).bind fun r_1 =>
  k0 (TState.mk [(TFile.mk [] 0 []), (TFile.mk [] 0 []), (TFile.mk [] 0 []), (TFile.mk [] 0 []), (TFile.mk [] 0 []), (TFile.mk [] 0 [])] r_1 0)
def state_New : Option TState := state_New_k (fun x => some x)
theorem state_New_bind {α : Type} (k0 : TState → Option α) : state_New_k k0 = (state_New).bind k0 := by
  unfold state_New state_New_k; simp only [bind_cond, Option.bind_assoc, alt_bind, Option.bind_some, Option.bind_none, alt_inl, alt_inr]
@[reducible] def state_number_k {α : Type} (k : Bool → α) (v : Int) : α :=
  bif (decide (v ≥ 0)) then k (decide (v ≤ 1073741824))
  else k false
def state_number (v : Int) : Bool := state_number_k id v
theorem state_number_bind {α : Type} (k : Bool → α) (v : Int) : state_number_k k v = k (state_number v) := by
  unfold state_number state_number_k; simp only [Bool.apply_cond k, id]
@[reducible] def dir_May_s0k {α : Type} (name : List UInt8) (t7 : Int) (r0 : List UInt8) (kc : Int → Option α) (k0 : Unit → Option α) (k1 : Unit → Option α) (t8 : Int) : Option α :=
  bif (decide (t8 < t7)) then (bif (inR t8 r0.length) then (((r0[t8.toNat]?)).bind fun y_1 =>
      bif (decide ((i8 y_1) < 33)) then k0 ()
      else bif (decide ((i8 y_1) > 126)) then k0 ()
        else kc (wi64 (t8 + 1)))
    else none)
  else k1 ()
def dir_May_s0 (name : List UInt8) (t7 : Int) (r0 : List UInt8) (v_ : Int) : Option (Int ⊕ (Unit ⊕ Unit)) := dir_May_s0k name t7 r0 (fun x => some (.inl x)) (fun x => some (.inr (.inl x))) (fun x => some (.inr (.inr x))) v_
def dir_May_l0 (name : List UInt8) (t7 : Int) (r0 : List UInt8) (t8 : Int) : Option (Unit ⊕ Unit) := iter (dir_May_s0 name t7 r0) n_ t8
theorem dir_May_s0_bind {α : Type} (name : List UInt8) (t7 : Int) (r0 : List UInt8) (kc : Int → Option α) (k0 : Unit → Option α) (k1 : Unit → Option α) (t8 : Int) : dir_May_s0k name t7 r0 kc k0 k1 t8 = (dir_May_s0 name t7 r0 t8).bind fun s_ => alt s_ kc (fun s0_ => alt s0_ k0 k1) := by
  unfold dir_May_s0 dir_May_s0k; simp only [bind_cond, Option.bind_assoc, alt_bind, Option.bind_some, Option.bind_none, alt_inl, alt_inr]
@[reducible] def dir_May_k {α : Type} (k0 : Bool → Option α) (name : List UInt8) : Option α :=
  ((dir_May_l0 n_ name (name.length : Int) name 0)).bind fun r_1 =>
  alt r_1 (fun a_2 =>
    k0 false) (fun b_3 =>
    bif (decide ((name.length : Int) ≥ 1)) then k0 (decide ((name.length : Int) ≤ 8))
    else k0 false)
def dir_May (name : List UInt8) : Option Bool := dir_May_k n_ (fun x => some x) name
theorem dir_May_bind {α : Type} (k0 : Bool → Option α) (name : List UInt8) : dir_May_k n_ k0 name = (dir_May n_ name).bind k0 := by
  unfold dir_May dir_May_k; simp only [bind_cond, Option.bind_assoc, alt_bind, Option.bind_some, Option.bind_none, alt_inl, alt_inr]
@[reducible] def state_mayFile_k {α : Type} (k0 : Bool → Option α) (f : TFile) : Option α :=
  bif (f.Name == []) then k0 (TFile.eqb f (TFile.mk [] 0 []))
  else ((dir_May n_ f.Name)).bind fun r_1 =>
    bif r_1 then (bif (decide (f.Ver ≥ 1)) then (bif (state_number f.Ver) then k0 (decide ((f.Body.length : Int) ≤ 24))
        else k0 false)
      else k0 false)
    else k0 false
def state_mayFile (f : TFile) : Option Bool := state_mayFile_k n_ (fun x => some x) f
theorem state_mayFile_bind {α : Type} (k0 : Bool → Option α) (f : TFile) : state_mayFile_k n_ k0 f = (state_mayFile n_ f).bind k0 := by
  unfold state_mayFile state_mayFile_k; simp only [bind_cond, Option.bind_assoc, alt_bind, Option.bind_some, Option.bind_none, alt_inl, alt_inr]
@[reducible] def state_May_c1_k {α : Type} (k : Bool → α) (g : TFile) (o0 : TFile) : α :=
  bif (!(o0.Name == [])) then k (g.Name == o0.Name)
  else k false
def state_May_c1 (g : TFile) (o0 : TFile) : Bool := state_May_c1_k id g o0
theorem state_May_c1_bind {α : Type} (k : Bool → α) (g : TFile) (o0 : TFile) : state_May_c1_k k g o0 = k (state_May_c1 g o0) := by
  unfold state_May_c1 state_May_c1_k; simp only [Bool.apply_cond k, id]
@[reducible] def slices_IndexFunc_File_s0k {α : Type} (s : List TFile) (t7 : Int) (o0 : TFile) (kc : Int → Option α) (k0 : Int → Option α) (k1 : Unit → Option α) (t8 : Int) : Option α :=
  bif (decide (t8 < t7)) then (bif (inR t8 s.length) then (((s[t8.toNat]?)).bind fun y_1 =>
      bif (state_May_c1 y_1 o0) then k0 t8
      else kc (wi64 (t8 + 1)))
    else none)
  else k1 ()
def slices_IndexFunc_File_s0 (s : List TFile) (t7 : Int) (o0 : TFile) (v_ : Int) : Option (Int ⊕ (Int ⊕ Unit)) := slices_IndexFunc_File_s0k s t7 o0 (fun x => some (.inl x)) (fun x => some (.inr (.inl x))) (fun x => some (.inr (.inr x))) v_
def slices_IndexFunc_File_l0 (s : List TFile) (t7 : Int) (o0 : TFile) (t8 : Int) : Option (Int ⊕ Unit) := iter (slices_IndexFunc_File_s0 s t7 o0) n_ t8
theorem slices_IndexFunc_File_s0_bind {α : Type} (s : List TFile) (t7 : Int) (o0 : TFile) (kc : Int → Option α) (k0 : Int → Option α) (k1 : Unit → Option α) (t8 : Int) : slices_IndexFunc_File_s0k s t7 o0 kc k0 k1 t8 = (slices_IndexFunc_File_s0 s t7 o0 t8).bind fun s_ => alt s_ kc (fun s0_ => alt s0_ k0 k1) := by
  unfold slices_IndexFunc_File_s0 slices_IndexFunc_File_s0k; simp only [bind_cond, Option.bind_assoc, alt_bind, Option.bind_some, Option.bind_none, alt_inl, alt_inr]
@[reducible] def slices_IndexFunc_File_k {α : Type} (k0 : Int → Option α) (s : List TFile) (o0 : TFile) : Option α :=
  ((slices_IndexFunc_File_l0 n_ s (s.length : Int) o0 0)).bind fun r_1 =>
  alt r_1 (fun a_2 =>
    k0 a_2) (fun b_3 =>
    k0 (-1))
def slices_IndexFunc_File (s : List TFile) (o0 : TFile) : Option Int := slices_IndexFunc_File_k n_ (fun x => some x) s o0
theorem slices_IndexFunc_File_bind {α : Type} (k0 : Int → Option α) (s : List TFile) (o0 : TFile) : slices_IndexFunc_File_k n_ k0 s o0 = (slices_IndexFunc_File n_ s o0).bind k0 := by
  unfold slices_IndexFunc_File slices_IndexFunc_File_k; simp only [bind_cond, Option.bind_assoc, alt_bind, Option.bind_some, Option.bind_none, alt_inl, alt_inr]
@[reducible] def slices_ContainsFunc_File_k {α : Type} (k0 : Bool → Option α) (s : List TFile) (o0 : TFile) : Option α :=
  ((slices_IndexFunc_File n_ s o0)).bind fun r_1 =>
  k0 (decide (r_1 ≥ 0))
def slices_ContainsFunc_File (s : List TFile) (o0 : TFile) : Option Bool := slices_ContainsFunc_File_k n_ (fun x => some x) s o0
theorem slices_ContainsFunc_File_bind {α : Type} (k0 : Bool → Option α) (s : List TFile) (o0 : TFile) : slices_ContainsFunc_File_k n_ k0 s o0 = (slices_ContainsFunc_File n_ s o0).bind k0 := by
  unfold slices_ContainsFunc_File slices_ContainsFunc_File_k; simp only [bind_cond, Option.bind_assoc, alt_bind, Option.bind_some, Option.bind_none, alt_inl, alt_inr]
@[reducible] def state_mayMark_k {α : Type} (k : Bool → α) (m : TMark) : α :=
  bif (state_number m.Seq) then (bif (decide (m.File ≥ 0)) then (bif (decide (m.File ≤ 6)) then (bif (state_number m.Ver) then (bif (decide (m.Err ≥ 0)) then k (decide (m.Err ≤ 3))
          else k false)
        else k false)
      else k false)
    else k false)
  else k false
def state_mayMark (m : TMark) : Bool := state_mayMark_k id m
theorem state_mayMark_bind {α : Type} (k : Bool → α) (m : TMark) : state_mayMark_k k m = k (state_mayMark m) := by
  unfold state_mayMark state_mayMark_k; simp only [Bool.apply_cond k, id]
@[reducible] def state_May_c2_k {α : Type} (k : Bool → α) (m : TMark) : α :=
  k (!(state_mayMark m))
def state_May_c2 (m : TMark) : Bool := state_May_c2_k id m
theorem state_May_c2_bind {α : Type} (k : Bool → α) (m : TMark) : state_May_c2_k k m = k (state_May_c2 m) := by
  unfold state_May_c2 state_May_c2_k; simp only [Bool.apply_cond k, id]
@[reducible] def slices_IndexFunc_Mark_s0k {α : Type} (s : List TMark) (t7 : Int) (kc : Int → Option α) (k0 : Int → Option α) (k1 : Unit → Option α) (t8 : Int) : Option α :=
  bif (decide (t8 < t7)) then (bif (inR t8 s.length) then (((s[t8.toNat]?)).bind fun y_1 =>
      bif (state_May_c2 y_1) then k0 t8
      else kc (wi64 (t8 + 1)))
    else none)
  else k1 ()
def slices_IndexFunc_Mark_s0 (s : List TMark) (t7 : Int) (v_ : Int) : Option (Int ⊕ (Int ⊕ Unit)) := slices_IndexFunc_Mark_s0k s t7 (fun x => some (.inl x)) (fun x => some (.inr (.inl x))) (fun x => some (.inr (.inr x))) v_
def slices_IndexFunc_Mark_l0 (s : List TMark) (t7 : Int) (t8 : Int) : Option (Int ⊕ Unit) := iter (slices_IndexFunc_Mark_s0 s t7) n_ t8
theorem slices_IndexFunc_Mark_s0_bind {α : Type} (s : List TMark) (t7 : Int) (kc : Int → Option α) (k0 : Int → Option α) (k1 : Unit → Option α) (t8 : Int) : slices_IndexFunc_Mark_s0k s t7 kc k0 k1 t8 = (slices_IndexFunc_Mark_s0 s t7 t8).bind fun s_ => alt s_ kc (fun s0_ => alt s0_ k0 k1) := by
  unfold slices_IndexFunc_Mark_s0 slices_IndexFunc_Mark_s0k; simp only [bind_cond, Option.bind_assoc, alt_bind, Option.bind_some, Option.bind_none, alt_inl, alt_inr]
@[reducible] def slices_IndexFunc_Mark_k {α : Type} (k0 : Int → Option α) (s : List TMark) : Option α :=
  ((slices_IndexFunc_Mark_l0 n_ s (s.length : Int) 0)).bind fun r_1 =>
  alt r_1 (fun a_2 =>
    k0 a_2) (fun b_3 =>
    k0 (-1))
def slices_IndexFunc_Mark (s : List TMark) : Option Int := slices_IndexFunc_Mark_k n_ (fun x => some x) s
theorem slices_IndexFunc_Mark_bind {α : Type} (k0 : Int → Option α) (s : List TMark) : slices_IndexFunc_Mark_k n_ k0 s = (slices_IndexFunc_Mark n_ s).bind k0 := by
  unfold slices_IndexFunc_Mark slices_IndexFunc_Mark_k; simp only [bind_cond, Option.bind_assoc, alt_bind, Option.bind_some, Option.bind_none, alt_inl, alt_inr]
@[reducible] def slices_ContainsFunc_Mark_k {α : Type} (k0 : Bool → Option α) (s : List TMark) : Option α :=
  ((slices_IndexFunc_Mark n_ s)).bind fun r_1 =>
  k0 (decide (r_1 ≥ 0))
def slices_ContainsFunc_Mark (s : List TMark) : Option Bool := slices_ContainsFunc_Mark_k n_ (fun x => some x) s
theorem slices_ContainsFunc_Mark_bind {α : Type} (k0 : Bool → Option α) (s : List TMark) : slices_ContainsFunc_Mark_k n_ k0 s = (slices_ContainsFunc_Mark n_ s).bind k0 := by
  unfold slices_ContainsFunc_Mark slices_ContainsFunc_Mark_k; simp only [bind_cond, Option.bind_assoc, alt_bind, Option.bind_some, Option.bind_none, alt_inl, alt_inr]
@[reducible] def state_May_s0k {α : Type} (t23 : List TFile) (t24 : Int) (s : TState) (kc : Int → Option α) (k0 : TFile → Option α) (k1 : Unit → Option α) (t25 : Int) : Option α :=
  bif (decide (t25 < t24)) then (bif (inR t25 t23.length) then (((t23[t25.toNat]?)).bind fun y_1 =>
      ((state_mayFile n_ y_1)).bind fun r_2 =>
      bif (!r_2) then k0 y_1
      else bif (cutOk 0 t25 s.Files.length) then (((slices_ContainsFunc_File n_ (cutL s.Files 0 t25) y_1)).bind fun r_3 =>
          bif r_3 then k0 y_1
          else kc (wi64 (t25 + 1)))
        else none)
    else none)
  else k1 ()
def state_May_s0 (t23 : List TFile) (t24 : Int) (s : TState) (v_ : Int) : Option (Int ⊕ (TFile ⊕ Unit)) := state_May_s0k n_ t23 t24 s (fun x => some (.inl x)) (fun x => some (.inr (.inl x))) (fun x => some (.inr (.inr x))) v_
def state_May_l0 (t23 : List TFile) (t24 : Int) (s : TState) (t25 : Int) : Option (TFile ⊕ Unit) := iter (state_May_s0 n_ t23 t24 s) n_ t25
theorem state_May_s0_bind {α : Type} (t23 : List TFile) (t24 : Int) (s : TState) (kc : Int → Option α) (k0 : TFile → Option α) (k1 : Unit → Option α) (t25 : Int) : state_May_s0k n_ t23 t24 s kc k0 k1 t25 = (state_May_s0 n_ t23 t24 s t25).bind fun s_ => alt s_ kc (fun s0_ => alt s0_ k0 k1) := by
  unfold state_May_s0 state_May_s0k; simp only [bind_cond, Option.bind_assoc, alt_bind, Option.bind_some, Option.bind_none, alt_inl, alt_inr]
@[reducible] def state_May_k {α : Type} (k0 : Bool → Option α) (s : TState) : Option α :=
  bif ((s.Files.length : Int) != 6) then k0 false
  else bif ((s.Marks.length : Int) != 3) then k0 false
    else bif (!(state_number s.Epoch)) then k0 false
      else ((state_May_l0 n_ s.Files (s.Files.length : Int) s 0)).bind fun r_1 =>
        alt r_1 (fun a_2 =>
          k0 false) (fun b_3 =>
          ((slices_ContainsFunc_Mark n_ s.Marks)).bind fun r_4 =>
          k0 (!r_4))
def state_May (s : TState) : Option Bool := state_May_k n_ (fun x => some x) s
theorem state_May_bind {α : Type} (k0 : Bool → Option α) (s : TState) : state_May_k n_ k0 s = (state_May n_ s).bind k0 := by
  unfold state_May state_May_k; simp only [bind_cond, Option.bind_assoc, alt_bind, Option.bind_some, Option.bind_none, alt_inl, alt_inr]
@[reducible] def bits_Put_s0k {α : Type} (v : Int) (kc : (Int × List UInt8) → Option α) (k0 : (List UInt8) → Option α) (n : Int) (b : List UInt8) : Option α :=
  bif (decide (n ≥ 0)) then (bif (decide ((wi64 (8 * n)) < 0)) then none
    else bif (decide ((b.length + 1) ≤ lim)) then kc ((wi64 (n - 1)), (b ++ [(b8 (wu8 (shrI .i64 v (wi64 (8 * n)))))]))
      else none)
  else k0 b
def bits_Put_s0 (v : Int) (v_ : Int × List UInt8) : Option ((Int × List UInt8) ⊕ (List UInt8)) := bits_Put_s0k v (fun x => some (.inl x)) (fun x => some (.inr x)) v_.1 v_.2
def bits_Put_l0 (v : Int) (n : Int) (b : List UInt8) : Option (List UInt8) := iter (bits_Put_s0 v) n_ (n, b)
theorem bits_Put_s0_bind {α : Type} (v : Int) (kc : (Int × List UInt8) → Option α) (k0 : (List UInt8) → Option α) (n : Int) (b : List UInt8) : bits_Put_s0k v kc k0 n b = (bits_Put_s0 v (n, b)).bind fun s_ => alt s_ kc k0 := by
  unfold bits_Put_s0 bits_Put_s0k; simp only [bind_cond, Option.bind_assoc, alt_bind, Option.bind_some, Option.bind_none, alt_inl, alt_inr]
@[reducible] def bits_Put_k {α : Type} (k0 : (List UInt8) → Option α) (b : List UInt8) (v : Int) (n : Int) : Option α :=
  bif (decide (n < 1)) then k0 b
  else bif (decide (n > 8)) then k0 b
    else ((bits_Put_l0 n_ v (wi64 (n - 1)) b)).bind fun r_1 =>
      k0 r_1
def bits_Put (b : List UInt8) (v : Int) (n : Int) : Option (List UInt8) := bits_Put_k n_ (fun x => some x) b v n
theorem bits_Put_bind {α : Type} (k0 : (List UInt8) → Option α) (b : List UInt8) (v : Int) (n : Int) : bits_Put_k n_ k0 b v n = (bits_Put n_ b v n).bind k0 := by
  unfold bits_Put bits_Put_k; simp only [bind_cond, Option.bind_assoc, alt_bind, Option.bind_some, Option.bind_none, alt_inl, alt_inr]
@[reducible] def bits_Text_k {α : Type} (k0 : (List UInt8) → Option α) (b : List UInt8) (s : List UInt8) : Option α :=
  bif (decide ((s.length : Int) > 255)) then k0 b
  else bif (decide ((b.length + 1) ≤ lim)) then (bif (decide (((b ++ [(b8 (wu8 (s.length : Int)))]).length + s.length) ≤ lim)) then k0 ((b ++ [(b8 (wu8 (s.length : Int)))]) ++ s)
      else none)
    else none
def bits_Text (b : List UInt8) (s : List UInt8) : Option (List UInt8) := bits_Text_k (fun x => some x) b s
theorem bits_Text_bind {α : Type} (k0 : (List UInt8) → Option α) (b : List UInt8) (s : List UInt8) : bits_Text_k k0 b s = (bits_Text b s).bind k0 := by
  unfold bits_Text bits_Text_k; simp only [bind_cond, Option.bind_assoc, alt_bind, Option.bind_some, Option.bind_none, alt_inl, alt_inr]
@[reducible] def image_padded_k {α : Type} (k0 : (List UInt8) → Option α) (b : List UInt8) (s : List UInt8) (n : Int) : Option α :=
  ((bits_Text b s)).bind fun r_1 =>
  bif (natOk (wi64 ((wi64 (n - 1)) - (s.length : Int)))) then (bif (decide ((r_1.length + (List.replicate (wi64 ((wi64 (n - 1)) - (s.length : Int))).toNat (0 : UInt8)).length) ≤ lim)) then k0 (r_1 ++ (List.replicate (wi64 ((wi64 (n - 1)) - (s.length : Int))).toNat (0 : UInt8)))
    else none)
  else none
def image_padded (b : List UInt8) (s : List UInt8) (n : Int) : Option (List UInt8) := image_padded_k (fun x => some x) b s n
theorem image_padded_bind {α : Type} (k0 : (List UInt8) → Option α) (b : List UInt8) (s : List UInt8) (n : Int) : image_padded_k k0 b s n = (image_padded b s n).bind k0 := by
  unfold image_padded image_padded_k; simp only [bind_cond, Option.bind_assoc, alt_bind, Option.bind_some, Option.bind_none, alt_inl, alt_inr]
@[reducible] def image_Put_s0k {α : Type} (t18 : List TMark) (t19 : Int) (s : TState) (kc : (Int × List UInt8) → Option α) (k0 : (List UInt8) → Option α) (t20 : Int) (b : List UInt8) : Option α :=
  bif (decide (t20 < t19)) then (bif (inR t20 t18.length) then (((t18[t20.toNat]?)).bind fun y_1 =>
      ((bits_Put n_ b y_1.Seq 4)).bind fun r_2 =>
      ((bits_Put n_ r_2 y_1.Err 1)).bind fun r_3 =>
      ((bits_Put n_ r_3 y_1.File 1)).bind fun r_4 =>
      ((bits_Put n_ r_4 y_1.Ver 4)).bind fun r_5 =>
      kc ((wi64 (t20 + 1)), r_5))
    else none)
  else k0 b
def image_Put_s0 (t18 : List TMark) (t19 : Int) (s : TState) (v_ : Int × List UInt8) : Option ((Int × List UInt8) ⊕ (List UInt8)) := image_Put_s0k n_ t18 t19 s (fun x => some (.inl x)) (fun x => some (.inr x)) v_.1 v_.2
def image_Put_l0 (t18 : List TMark) (t19 : Int) (s : TState) (t20 : Int) (b : List UInt8) : Option (List UInt8) := iter (image_Put_s0 n_ t18 t19 s) n_ (t20, b)
theorem image_Put_s0_bind {α : Type} (t18 : List TMark) (t19 : Int) (s : TState) (kc : (Int × List UInt8) → Option α) (k0 : (List UInt8) → Option α) (t20 : Int) (b : List UInt8) : image_Put_s0k n_ t18 t19 s kc k0 t20 b = (image_Put_s0 n_ t18 t19 s (t20, b)).bind fun s_ => alt s_ kc k0 := by
  unfold image_Put_s0 image_Put_s0k; simp only [bind_cond, Option.bind_assoc, alt_bind, Option.bind_some, Option.bind_none, alt_inl, alt_inr]
@[reducible] def image_Put_s1k {α : Type} (t39 : List TFile) (t40 : Int) (o0 : TState) (kc : (Int × List UInt8) → Option α) (k0 : (List UInt8) → Option α) (t41 : Int) (b : List UInt8) : Option α :=
  bif (decide (t41 < t40)) then (bif (inR t41 t39.length) then (((t39[t41.toNat]?)).bind fun y_1 =>
      ((image_padded b y_1.Name 9)).bind fun r_2 =>
      ((bits_Put n_ r_2 y_1.Ver 4)).bind fun r_3 =>
      ((image_padded r_3 y_1.Body 25)).bind fun r_4 =>
      kc ((wi64 (t41 + 1)), r_4))
    else none)
  else k0 b
def image_Put_s1 (t39 : List TFile) (t40 : Int) (o0 : TState) (v_ : Int × List UInt8) : Option ((Int × List UInt8) ⊕ (List UInt8)) := image_Put_s1k n_ t39 t40 o0 (fun x => some (.inl x)) (fun x => some (.inr x)) v_.1 v_.2
def image_Put_l1 (t39 : List TFile) (t40 : Int) (o0 : TState) (t41 : Int) (b : List UInt8) : Option (List UInt8) := iter (image_Put_s1 n_ t39 t40 o0) n_ (t41, b)
theorem image_Put_s1_bind {α : Type} (t39 : List TFile) (t40 : Int) (o0 : TState) (kc : (Int × List UInt8) → Option α) (k0 : (List UInt8) → Option α) (t41 : Int) (b : List UInt8) : image_Put_s1k n_ t39 t40 o0 kc k0 t41 b = (image_Put_s1 n_ t39 t40 o0 (t41, b)).bind fun s_ => alt s_ kc k0 := by
  unfold image_Put_s1 image_Put_s1k; simp only [bind_cond, Option.bind_assoc, alt_bind, Option.bind_some, Option.bind_none, alt_inl, alt_inr]
@[reducible] def image_Put_k {α : Type} (k0 : (List (List UInt8)) → Option α) (s : TState) : Option α :=
  ((state_May n_ s)).bind fun r_1 =>
  bif (!r_1) then k0 ([])
  else ((bits_Put n_ [] s.Epoch 4)).bind fun r_2 =>
    ((image_Put_l0 n_ s.Marks (s.Marks.length : Int) s 0 r_2)).bind fun r_3 =>
    ((image_Put_l1 n_ s.Files (s.Files.length : Int) s 0 r_3)).bind fun r_4 =>
    bif (decide (((r_4.length : Int).tmod 32) > 0)) then (bif (natOk (wi64 (32 - ((r_4.length : Int).tmod 32)))) then (bif (decide ((r_4.length + (List.replicate (wi64 (32 - ((r_4.length : Int).tmod 32))).toNat (0 : UInt8)).length) ≤ lim)) then k0 (chunkL (r_4 ++ (List.replicate (wi64 (32 - ((r_4.length : Int).tmod 32))).toNat (0 : UInt8))))
        else none)
      else none)
    else k0 (chunkL r_4)
def image_Put (s : TState) : Option (List (List UInt8)) := image_Put_k n_ (fun x => some x) s
theorem image_Put_bind {α : Type} (k0 : (List (List UInt8)) → Option α) (s : TState) : image_Put_k n_ k0 s = (image_Put n_ s).bind k0 := by
  unfold image_Put image_Put_k; simp only [bind_cond, Option.bind_assoc, alt_bind, Option.bind_some, Option.bind_none, alt_inl, alt_inr]
@[reducible] def store_home_k {α : Type} (k0 : Int → Option α) : Option α :=
  (state_New).bind fun r_1 =>
  ((image_Put n_ r_1)).bind fun r_2 =>
  k0 (r_2.length : Int)
def store_home : Option Int := store_home_k n_ (fun x => some x)
theorem store_home_bind {α : Type} (k0 : Int → Option α) : store_home_k n_ k0 = (store_home n_).bind k0 := by
  unfold store_home store_home_k; simp only [bind_cond, Option.bind_assoc, alt_bind, Option.bind_some, Option.bind_none, alt_inl, alt_inr]
@[reducible] def store_size_k {α : Type} (k0 : Int → Option α) : Option α :=
  ((store_home n_)).bind fun r_1 =>
  k0 (wi64 ((wi64 (2 * r_1)) + 1))
def store_size : Option Int := store_size_k n_ (fun x => some x)
theorem store_size_bind {α : Type} (k0 : Int → Option α) : store_size_k n_ k0 = (store_size n_).bind k0 := by
  unfold store_size store_size_k; simp only [bind_cond, Option.bind_assoc, alt_bind, Option.bind_some, Option.bind_none, alt_inl, alt_inr]
@[reducible] def bits64_Mul64_k {α : Type} (k : (Int × Int) → α) (x : Int) (y : Int) : α :=
  k ((wu64 ((wu64 ((wu64 ((shrI .u64 x 32) * (shrI .u64 y 32))) + (shrI .u64 (wu64 ((wu64 ((shrI .u64 x 32) * (band .u64 y 4294967295))) + (shrI .u64 (wu64 ((band .u64 x 4294967295) * (band .u64 y 4294967295))) 32))) 32))) + (shrI .u64 (wu64 ((band .u64 (wu64 ((wu64 ((shrI .u64 x 32) * (band .u64 y 4294967295))) + (shrI .u64 (wu64 ((band .u64 x 4294967295) * (band .u64 y 4294967295))) 32))) 4294967295) + (wu64 ((band .u64 x 4294967295) * (shrI .u64 y 32))))) 32))), (wu64 (x * y)))
def bits64_Mul64 (x : Int) (y : Int) : Int × Int := bits64_Mul64_k id x y
theorem bits64_Mul64_bind {α : Type} (k : (Int × Int) → α) (x : Int) (y : Int) : bits64_Mul64_k k x y = k (bits64_Mul64 x y) := by
  unfold bits64_Mul64 bits64_Mul64_k; simp only [Bool.apply_cond k, id]
@[reducible] def disk_New_k {α : Type} (k0 : TDisk → Option α) (n : Int) : Option α :=
  bif (decide (n < 1)) then k0 (TDisk.mk [] [] 0 false)
  else bif (decide (n > 64)) then k0 (TDisk.mk [] [] 0 false)
    else bif (repOk ([0] : List UInt8) 32) then (bif (repOk1 [(repL ([0] : List UInt8) 32)] n) then k0 (TDisk.mk (repL [(repL ([0] : List UInt8) 32)] n) [] 0 false)
        else none)
      else none
def disk_New (n : Int) : Option TDisk := disk_New_k (fun x => some x) n
theorem disk_New_bind {α : Type} (k0 : TDisk → Option α) (n : Int) : disk_New_k k0 n = (disk_New n).bind k0 := by
  unfold disk_New disk_New_k; simp only [bind_cond, Option.bind_assoc, alt_bind, Option.bind_some, Option.bind_none, alt_inl, alt_inr]
@[reducible] def disk_twin_k {α : Type} (k : Unit → α) (d : TDisk) : α :=
  k ()
def disk_twin (d : TDisk) : Unit := disk_twin_k id d
theorem disk_twin_bind {α : Type} (k : Unit → α) (d : TDisk) : disk_twin_k k d = k (disk_twin d) := by
  unfold disk_twin disk_twin_k; simp only [Bool.apply_cond k, id]
@[reducible] def disk_there_k {α : Type} (k : Bool → α) (d : TDisk) (i : Int) : α :=
  bif (!d.Down) then (bif (decide (i ≥ 0)) then k (decide (i < (d.Last.length : Int)))
    else k false)
  else k false
def disk_there (d : TDisk) (i : Int) : Bool := disk_there_k id d i
theorem disk_there_bind {α : Type} (k : Bool → α) (d : TDisk) (i : Int) : disk_there_k k d i = k (disk_there d i) := by
  unfold disk_there disk_there_k; simp only [Bool.apply_cond k, id]
@[reducible] def disk_Write_k {α : Type} (k0 : (TDisk × Bool) → Option α) (d : TDisk) (i : Int) (b : List UInt8) : Option α :=
  bif (!(disk_there d i)) then k0 (d, false)
  else bif ((b.length : Int) != 32) then k0 (d, false)
    else bif (decide ((d.Wait.length + 1) ≤ lim)) then (bif (decide (d.Arm > 0)) then k0 ((TDisk.mk d.Last (d.Wait ++ [(TPut.mk i b)]) (wi64 (d.Arm - 1)) ((wi64 (d.Arm - 1)) == 0)), (!((wi64 (d.Arm - 1)) == 0)))
        else k0 ((TDisk.mk d.Last (d.Wait ++ [(TPut.mk i b)]) d.Arm d.Down), (!d.Down)))
      else none
def disk_Write (d : TDisk) (i : Int) (b : List UInt8) : Option (TDisk × Bool) := disk_Write_k (fun x => some x) d i b
theorem disk_Write_bind {α : Type} (k0 : (TDisk × Bool) → Option α) (d : TDisk) (i : Int) (b : List UInt8) : disk_Write_k k0 d i b = (disk_Write d i b).bind k0 := by
  unfold disk_Write disk_Write_k; simp only [bind_cond, Option.bind_assoc, alt_bind, Option.bind_some, Option.bind_none, alt_inl, alt_inr]
@[reducible] def disk_lasting_lasts_k {α : Type} (k0 : Tdisk_lasting → Option α) (p : TPut) (n : Int) (f : Tdisk_lasting) : Option α :=
  bif (decide (p.At < 0)) then k0 f
  else bif (decide (p.At ≥ (f.d.Last.length : Int))) then k0 f
    else bif (inR p.At f.d.Last.length) then (((f.d.Last[p.At.toNat]?)).bind fun y_1 =>
        bif (cutOk 0 (imax (imin (imin n (p.B.length : Int)) (y_1.length : Int)) 0) p.B.length) then (bif (inR p.At f.d.Last.length) then (((f.d.Last[p.At.toNat]?)).bind fun y_2 =>
            bif (cutOk (imax (imin (imin n (p.B.length : Int)) (y_1.length : Int)) 0) (y_2.length : Int) y_2.length) then (bif (decide (((cutL p.B 0 (imax (imin (imin n (p.B.length : Int)) (y_1.length : Int)) 0)).length + (cutL y_2 (imax (imin (imin n (p.B.length : Int)) (y_1.length : Int)) 0) (y_2.length : Int)).length) ≤ lim)) then (bif (inR p.At f.d.Last.length) then (((f.d.Last[p.At.toNat]?)).bind fun y_3 =>
                  k0 (Tdisk_lasting.mk (TDisk.mk (f.d.Last.set p.At.toNat ((cutL p.B 0 (imax (imin (imin n (p.B.length : Int)) (y_1.length : Int)) 0)) ++ (cutL y_2 (imax (imin (imin n (p.B.length : Int)) (y_1.length : Int)) 0) (y_2.length : Int)))) f.d.Wait f.d.Arm f.d.Down)))
                else none)
              else none)
            else none)
          else none)
        else none)
      else none
def disk_lasting_lasts (p : TPut) (n : Int) (f : Tdisk_lasting) : Option Tdisk_lasting := disk_lasting_lasts_k (fun x => some x) p n f
theorem disk_lasting_lasts_bind {α : Type} (k0 : Tdisk_lasting → Option α) (p : TPut) (n : Int) (f : Tdisk_lasting) : disk_lasting_lasts_k k0 p n f = (disk_lasting_lasts p n f).bind k0 := by
  unfold disk_lasting_lasts disk_lasting_lasts_k; simp only [bind_cond, Option.bind_assoc, alt_bind, Option.bind_some, Option.bind_none, alt_inl, alt_inr]
@[reducible] def disk_Flush_s0k {α : Type} (t18 : List TPut) (t19 : Int) (o0 : TDisk) (kc : (Int × TDisk × Tdisk_lasting) → Option α) (k0 : (TDisk × Tdisk_lasting) → Option α) (t20 : Int) (o1 : TDisk) (f : Tdisk_lasting) : Option α :=
  bif (decide (t20 < t19)) then (bif (inR t20 t18.length) then (((t18[t20.toNat]?)).bind fun y_1 =>
      ((disk_lasting_lasts y_1 32 f)).bind fun r_2 =>
      kc ((wi64 (t20 + 1)), (TDisk.mk [] [] o1.Arm o1.Down), r_2))
    else none)
  else k0 ((TDisk.mk [] [] o1.Arm o1.Down), f)
def disk_Flush_s0 (t18 : List TPut) (t19 : Int) (o0 : TDisk) (v_ : Int × TDisk × Tdisk_lasting) : Option ((Int × TDisk × Tdisk_lasting) ⊕ (TDisk × Tdisk_lasting)) := disk_Flush_s0k t18 t19 o0 (fun x => some (.inl x)) (fun x => some (.inr x)) v_.1 v_.2.1 v_.2.2
def disk_Flush_l0 (t18 : List TPut) (t19 : Int) (o0 : TDisk) (t20 : Int) (o1 : TDisk) (f : Tdisk_lasting) : Option (TDisk × Tdisk_lasting) := iter (disk_Flush_s0 t18 t19 o0) n_ (t20, o1, f)
theorem disk_Flush_s0_bind {α : Type} (t18 : List TPut) (t19 : Int) (o0 : TDisk) (kc : (Int × TDisk × Tdisk_lasting) → Option α) (k0 : (TDisk × Tdisk_lasting) → Option α) (t20 : Int) (o1 : TDisk) (f : Tdisk_lasting) : disk_Flush_s0k t18 t19 o0 kc k0 t20 o1 f = (disk_Flush_s0 t18 t19 o0 (t20, o1, f)).bind fun s_ => alt s_ kc k0 := by
  unfold disk_Flush_s0 disk_Flush_s0k; simp only [bind_cond, Option.bind_assoc, alt_bind, Option.bind_some, Option.bind_none, alt_inl, alt_inr]
@[reducible] def disk_Flush_k {α : Type} (k0 : (TDisk × Bool) → Option α) (d : TDisk) : Option α :=
  bif d.Down then k0 (d, false)
  else ((disk_Flush_l0 n_ d.Wait (d.Wait.length : Int) d 0 (TDisk.mk [] [] 0 false) (Tdisk_lasting.mk d))).bind fun r_1 =>
    k0 ((TDisk.mk r_1.2.d.Last [] r_1.2.d.Arm r_1.2.d.Down), true)
def disk_Flush (d : TDisk) : Option (TDisk × Bool) := disk_Flush_k n_ (fun x => some x) d
theorem disk_Flush_bind {α : Type} (k0 : (TDisk × Bool) → Option α) (d : TDisk) : disk_Flush_k n_ k0 d = (disk_Flush n_ d).bind k0 := by
  unfold disk_Flush disk_Flush_k; simp only [bind_cond, Option.bind_assoc, alt_bind, Option.bind_some, Option.bind_none, alt_inl, alt_inr]
@[reducible] def store_Make_s0k {α : Type} (t9 : List (List UInt8)) (t10 : Int) (s : TState) (kc : (Int × TStore × TDisk) → Option α) (k0 : (TStore × TDisk) → Option α) (t11 : Int) (o0 : TStore) (d : TDisk) : Option α :=
  bif (decide (t11 < t10)) then (bif (inR t11 t9.length) then (((t9[t11.toNat]?)).bind fun y_1 =>
      ((disk_Write d t11 y_1)).bind fun r_2 =>
      kc ((wi64 (t11 + 1)), (TStore.mk (TDisk.mk [] [] o0.D.Arm o0.D.Down) (TState.mk [] [] o0.S.Epoch)), r_2.1))
    else none)
  else k0 ((TStore.mk (TDisk.mk [] [] o0.D.Arm o0.D.Down) (TState.mk [] [] o0.S.Epoch)), d)
def store_Make_s0 (t9 : List (List UInt8)) (t10 : Int) (s : TState) (v_ : Int × TStore × TDisk) : Option ((Int × TStore × TDisk) ⊕ (TStore × TDisk)) := store_Make_s0k t9 t10 s (fun x => some (.inl x)) (fun x => some (.inr x)) v_.1 v_.2.1 v_.2.2
def store_Make_l0 (t9 : List (List UInt8)) (t10 : Int) (s : TState) (t11 : Int) (o0 : TStore) (d : TDisk) : Option (TStore × TDisk) := iter (store_Make_s0 t9 t10 s) n_ (t11, o0, d)
theorem store_Make_s0_bind {α : Type} (t9 : List (List UInt8)) (t10 : Int) (s : TState) (kc : (Int × TStore × TDisk) → Option α) (k0 : (TStore × TDisk) → Option α) (t11 : Int) (o0 : TStore) (d : TDisk) : store_Make_s0k t9 t10 s kc k0 t11 o0 d = (store_Make_s0 t9 t10 s (t11, o0, d)).bind fun s_ => alt s_ kc k0 := by
  unfold store_Make_s0 store_Make_s0k; simp only [bind_cond, Option.bind_assoc, alt_bind, Option.bind_some, Option.bind_none, alt_inl, alt_inr]
@[reducible] def store_Make_k {α : Type} (k0 : TStore → Option α) : Option α :=
  (state_New).bind fun r_1 =>
  ((store_size n_)).bind fun r_2 =>
  ((disk_New r_2)).bind fun r_3 =>
  ((image_Put n_ r_1)).bind fun r_4 =>
  ((store_Make_l0 n_ r_4 (r_4.length : Int) r_1 0 (TStore.mk (TDisk.mk [] [] 0 false) (TState.mk [] [] 0)) r_3)).bind fun r_5 =>
  ((disk_Flush n_ r_5.2)).bind fun r_6 =>
  k0 (TStore.mk r_6.1 r_1)
def store_Make : Option TStore := store_Make_k n_ (fun x => some x)
theorem store_Make_bind {α : Type} (k0 : TStore → Option α) : store_Make_k n_ k0 = (store_Make n_).bind k0 := by
  unfold store_Make store_Make_k; simp only [bind_cond, Option.bind_assoc, alt_bind, Option.bind_some, Option.bind_none, alt_inl, alt_inr]
@[reducible] def ref7_MayName_s0k {α : Type} (s : List UInt8) (kc : Int → Option α) (k0 : Unit → Option α) (k1 : Unit → Option α) (i : Int) : Option α :=
  bif (decide (i < (s.length : Int))) then (bif (inR i s.length) then (((s[i.toNat]?)).bind fun y_1 =>
      bif (decide ((i8 y_1) < 33)) then k0 ()
      else bif (inR i s.length) then (((s[i.toNat]?)).bind fun y_2 =>
          bif (decide ((i8 y_2) > 126)) then k0 ()
          else kc (wi64 (i + 1)))
        else none)
    else none)
  else k1 ()
def ref7_MayName_s0 (s : List UInt8) (v_ : Int) : Option (Int ⊕ (Unit ⊕ Unit)) := ref7_MayName_s0k s (fun x => some (.inl x)) (fun x => some (.inr (.inl x))) (fun x => some (.inr (.inr x))) v_
def ref7_MayName_l0 (s : List UInt8) (i : Int) : Option (Unit ⊕ Unit) := iter (ref7_MayName_s0 s) n_ i
theorem ref7_MayName_s0_bind {α : Type} (s : List UInt8) (kc : Int → Option α) (k0 : Unit → Option α) (k1 : Unit → Option α) (i : Int) : ref7_MayName_s0k s kc k0 k1 i = (ref7_MayName_s0 s i).bind fun s_ => alt s_ kc (fun s0_ => alt s0_ k0 k1) := by
  unfold ref7_MayName_s0 ref7_MayName_s0k; simp only [bind_cond, Option.bind_assoc, alt_bind, Option.bind_some, Option.bind_none, alt_inl, alt_inr]
@[reducible] def ref7_MayName_k {α : Type} (k0 : Bool → Option α) (s : List UInt8) : Option α :=
  ((ref7_MayName_l0 n_ s 0)).bind fun r_1 =>
  alt r_1 (fun a_2 =>
    k0 false) (fun b_3 =>
    bif (decide ((s.length : Int) ≥ 1)) then k0 (decide ((s.length : Int) ≤ 8))
    else k0 false)
def ref7_MayName (s : List UInt8) : Option Bool := ref7_MayName_k n_ (fun x => some x) s
theorem ref7_MayName_bind {α : Type} (k0 : Bool → Option α) (s : List UInt8) : ref7_MayName_k n_ k0 s = (ref7_MayName n_ s).bind k0 := by
  unfold ref7_MayName ref7_MayName_k; simp only [bind_cond, Option.bind_assoc, alt_bind, Option.bind_some, Option.bind_none, alt_inl, alt_inr]
@[reducible] def ref7_PutMark_k {α : Type} (k0 : (List TMark) → Option α) (l : List TMark) (client : Int) (m : TMark) : Option α :=
  bif (decide (l.length ≤ lim)) then (bif (decide (client ≥ 1)) then (bif (decide (client ≤ (l.length : Int))) then (bif (inR (wi64 (client - 1)) l.length) then (((l[(wi64 (client - 1)).toNat]?)).bind fun y_1 =>
          bif (decide (m.Seq > y_1.Seq)) then (bif (inR (wi64 (client - 1)) l.length) then (((l[(wi64 (client - 1)).toNat]?)).bind fun y_2 =>
              k0 (l.set (wi64 (client - 1)).toNat m))
            else none)
          else k0 l)
        else none)
      else k0 l)
    else k0 l)
  else none
def ref7_PutMark (l : List TMark) (client : Int) (m : TMark) : Option (List TMark) := ref7_PutMark_k (fun x => some x) l client m
theorem ref7_PutMark_bind {α : Type} (k0 : (List TMark) → Option α) (l : List TMark) (client : Int) (m : TMark) : ref7_PutMark_k k0 l client m = (ref7_PutMark l client m).bind k0 := by
  unfold ref7_PutMark ref7_PutMark_k; simp only [bind_cond, Option.bind_assoc, alt_bind, Option.bind_some, Option.bind_none, alt_inl, alt_inr]
@[reducible] def ref7_marked_k {α : Type} (k0 : TState → Option α) (s : TState) (client : Int) (m : TMark) (at_ : Int) (f : TFile) : Option α :=
  ((ref7_PutMark s.Marks client m)).bind fun r_1 =>
  bif (decide (s.Files.length ≤ lim)) then (bif (decide (at_ > 0)) then (bif (inR (wi64 (at_ - 1)) s.Files.length) then (((s.Files[(wi64 (at_ - 1)).toNat]?)).bind fun y_2 =>
        k0 (TState.mk (s.Files.set (wi64 (at_ - 1)).toNat f) r_1 s.Epoch))
      else none)
    else k0 (TState.mk s.Files r_1 s.Epoch))
  else none
def ref7_marked (s : TState) (client : Int) (m : TMark) (at_ : Int) (f : TFile) : Option TState := ref7_marked_k (fun x => some x) s client m at_ f
theorem ref7_marked_bind {α : Type} (k0 : TState → Option α) (s : TState) (client : Int) (m : TMark) (at_ : Int) (f : TFile) : ref7_marked_k k0 s client m at_ f = (ref7_marked s client m at_ f).bind k0 := by
  unfold ref7_marked ref7_marked_k; simp only [bind_cond, Option.bind_assoc, alt_bind, Option.bind_some, Option.bind_none, alt_inl, alt_inr]
@[reducible] def ref7_Find_s0k {α : Type} (l : List TFile) (name : List UInt8) (kc : Int → Option α) (k0 : Int → Option α) (k1 : Unit → Option α) (i : Int) : Option α :=
  bif (decide (i < (l.length : Int))) then (((ref7_MayName n_ name)).bind fun r_1 =>
    bif r_1 then (bif (inR i l.length) then (((l[i.toNat]?)).bind fun y_2 =>
        bif (y_2.Name == name) then k0 (wi64 (i + 1))
        else kc (wi64 (i + 1)))
      else none)
    else k1 ())
  else k1 ()
def ref7_Find_s0 (l : List TFile) (name : List UInt8) (v_ : Int) : Option (Int ⊕ (Int ⊕ Unit)) := ref7_Find_s0k n_ l name (fun x => some (.inl x)) (fun x => some (.inr (.inl x))) (fun x => some (.inr (.inr x))) v_
def ref7_Find_l0 (l : List TFile) (name : List UInt8) (i : Int) : Option (Int ⊕ Unit) := iter (ref7_Find_s0 n_ l name) n_ i
theorem ref7_Find_s0_bind {α : Type} (l : List TFile) (name : List UInt8) (kc : Int → Option α) (k0 : Int → Option α) (k1 : Unit → Option α) (i : Int) : ref7_Find_s0k n_ l name kc k0 k1 i = (ref7_Find_s0 n_ l name i).bind fun s_ => alt s_ kc (fun s0_ => alt s0_ k0 k1) := by
  unfold ref7_Find_s0 ref7_Find_s0k; simp only [bind_cond, Option.bind_assoc, alt_bind, Option.bind_some, Option.bind_none, alt_inl, alt_inr]
@[reducible] def ref7_Find_k {α : Type} (k0 : (Int × Bool) → Option α) (l : List TFile) (name : List UInt8) : Option α :=
  ((ref7_Find_l0 n_ l name 0)).bind fun r_1 =>
  alt r_1 (fun a_2 =>
    k0 (a_2, true)) (fun b_3 =>
    k0 (0, false))
def ref7_Find (l : List TFile) (name : List UInt8) : Option (Int × Bool) := ref7_Find_k n_ (fun x => some x) l name
theorem ref7_Find_bind {α : Type} (k0 : (Int × Bool) → Option α) (l : List TFile) (name : List UInt8) : ref7_Find_k n_ k0 l name = (ref7_Find n_ l name).bind k0 := by
  unfold ref7_Find ref7_Find_k; simp only [bind_cond, Option.bind_assoc, alt_bind, Option.bind_some, Option.bind_none, alt_inl, alt_inr]
@[reducible] def ref7_Room_s0k {α : Type} (l : List TFile) (kc : Int → Option α) (k0 : Int → Option α) (k1 : Unit → Option α) (i : Int) : Option α :=
  bif (decide (i < (l.length : Int))) then (bif (inR i l.length) then (((l[i.toNat]?)).bind fun y_1 =>
      bif (y_1.Name == []) then k0 (wi64 (i + 1))
      else kc (wi64 (i + 1)))
    else none)
  else k1 ()
def ref7_Room_s0 (l : List TFile) (v_ : Int) : Option (Int ⊕ (Int ⊕ Unit)) := ref7_Room_s0k l (fun x => some (.inl x)) (fun x => some (.inr (.inl x))) (fun x => some (.inr (.inr x))) v_
def ref7_Room_l0 (l : List TFile) (i : Int) : Option (Int ⊕ Unit) := iter (ref7_Room_s0 l) n_ i
theorem ref7_Room_s0_bind {α : Type} (l : List TFile) (kc : Int → Option α) (k0 : Int → Option α) (k1 : Unit → Option α) (i : Int) : ref7_Room_s0k l kc k0 k1 i = (ref7_Room_s0 l i).bind fun s_ => alt s_ kc (fun s0_ => alt s0_ k0 k1) := by
  unfold ref7_Room_s0 ref7_Room_s0k; simp only [bind_cond, Option.bind_assoc, alt_bind, Option.bind_some, Option.bind_none, alt_inl, alt_inr]
@[reducible] def ref7_Room_k {α : Type} (k0 : (Int × Bool) → Option α) (l : List TFile) : Option α :=
  ((ref7_Room_l0 n_ l 0)).bind fun r_1 =>
  alt r_1 (fun a_2 =>
    k0 (a_2, true)) (fun b_3 =>
    k0 (0, false))
def ref7_Room (l : List TFile) : Option (Int × Bool) := ref7_Room_k n_ (fun x => some x) l
theorem ref7_Room_bind {α : Type} (k0 : (Int × Bool) → Option α) (l : List TFile) : ref7_Room_k n_ k0 l = (ref7_Room n_ l).bind k0 := by
  unfold ref7_Room ref7_Room_k; simp only [bind_cond, Option.bind_assoc, alt_bind, Option.bind_some, Option.bind_none, alt_inl, alt_inr]
@[reducible] def ref7_Open_k {α : Type} (k0 : (TState × TMark) → Option α) (s : TState) (client : Int) (seq : Int) (name : List UInt8) : Option α :=
  ((ref7_MayName n_ name)).bind fun r_1 =>
  bif (!r_1) then (((ref7_marked s client (TMark.mk seq 1 0 0) 0 (TFile.mk [] 0 []))).bind fun r_2 =>
    k0 (r_2, (TMark.mk seq 1 0 0)))
  else ((ref7_Find n_ s.Files name)).bind fun r_3 =>
    bif r_3.2 then (bif (inR (wi64 (r_3.1 - 1)) s.Files.length) then (((s.Files[(wi64 (r_3.1 - 1)).toNat]?)).bind fun y_4 =>
        ((ref7_marked s client (TMark.mk seq 0 r_3.1 y_4.Ver) 0 (TFile.mk [] 0 []))).bind fun r_5 =>
        k0 (r_5, (TMark.mk seq 0 r_3.1 y_4.Ver)))
      else none)
    else ((ref7_Room n_ s.Files)).bind fun r_6 =>
      bif (!r_6.2) then (((ref7_marked s client (TMark.mk seq 3 0 0) 0 (TFile.mk [] 0 []))).bind fun r_7 =>
        k0 (r_7, (TMark.mk seq 3 0 0)))
      else ((ref7_marked s client (TMark.mk seq 0 r_6.1 1) r_6.1 (TFile.mk name 1 []))).bind fun r_8 =>
        k0 (r_8, (TMark.mk seq 0 r_6.1 1))
def ref7_Open (s : TState) (client : Int) (seq : Int) (name : List UInt8) : Option (TState × TMark) := ref7_Open_k n_ (fun x => some x) s client seq name
theorem ref7_Open_bind {α : Type} (k0 : (TState × TMark) → Option α) (s : TState) (client : Int) (seq : Int) (name : List UInt8) : ref7_Open_k n_ k0 s client seq name = (ref7_Open n_ s client seq name).bind k0 := by
  unfold ref7_Open ref7_Open_k; simp only [bind_cond, Option.bind_assoc, alt_bind, Option.bind_some, Option.bind_none, alt_inl, alt_inr]
@[reducible] def store_twin_k {α : Type} (k : Unit → α) (s : TState) : α :=
  k ()
def store_twin (s : TState) : Unit := store_twin_k id s
theorem store_twin_bind {α : Type} (k : Unit → α) (s : TState) : store_twin_k k s = k (store_twin s) := by
  unfold store_twin store_twin_k; simp only [Bool.apply_cond k, id]
@[reducible] def jrnl_may_s0k {α : Type} (home : Int) (l : List TPut) (t10 : List TPut) (t11 : Int) (d : TDisk) (kc : (Int × Int) → Option α) (k0 : TPut → Option α) (k1 : Unit → Option α) (last : Int) (t12 : Int) : Option α :=
  bif (decide (t12 < t11)) then (bif (inR t12 t10.length) then (((t10[t12.toNat]?)).bind fun y_1 =>
      bif (decide (y_1.At ≤ last)) then k0 y_1
      else bif (decide (y_1.At ≥ home)) then k0 y_1
        else bif ((y_1.B.length : Int) != 32) then k0 y_1
          else kc (y_1.At, (wi64 (t12 + 1))))
    else none)
  else k1 ()
def jrnl_may_s0 (home : Int) (l : List TPut) (t10 : List TPut) (t11 : Int) (d : TDisk) (v_ : Int × Int) : Option ((Int × Int) ⊕ (TPut ⊕ Unit)) := jrnl_may_s0k home l t10 t11 d (fun x => some (.inl x)) (fun x => some (.inr (.inl x))) (fun x => some (.inr (.inr x))) v_.1 v_.2
def jrnl_may_l0 (home : Int) (l : List TPut) (t10 : List TPut) (t11 : Int) (d : TDisk) (last : Int) (t12 : Int) : Option (TPut ⊕ Unit) := iter (jrnl_may_s0 home l t10 t11 d) n_ (last, t12)
theorem jrnl_may_s0_bind {α : Type} (home : Int) (l : List TPut) (t10 : List TPut) (t11 : Int) (d : TDisk) (kc : (Int × Int) → Option α) (k0 : TPut → Option α) (k1 : Unit → Option α) (last : Int) (t12 : Int) : jrnl_may_s0k home l t10 t11 d kc k0 k1 last t12 = (jrnl_may_s0 home l t10 t11 d (last, t12)).bind fun s_ => alt s_ kc (fun s0_ => alt s0_ k0 k1) := by
  unfold jrnl_may_s0 jrnl_may_s0k; simp only [bind_cond, Option.bind_assoc, alt_bind, Option.bind_some, Option.bind_none, alt_inl, alt_inr]
@[reducible] def jrnl_may_k {α : Type} (k0 : Bool → Option α) (d : TDisk) (home : Int) (l : List TPut) : Option α :=
  ((jrnl_may_l0 n_ home l l (l.length : Int) d (-1) 0)).bind fun r_1 =>
  alt r_1 (fun a_2 =>
    k0 false) (fun b_3 =>
    bif (decide ((l.length : Int) ≤ 16)) then k0 (decide ((wi64 (home + (l.length : Int))) < (d.Last.length : Int)))
    else k0 false)
def jrnl_may (d : TDisk) (home : Int) (l : List TPut) : Option Bool := jrnl_may_k n_ (fun x => some x) d home l
theorem jrnl_may_bind {α : Type} (k0 : Bool → Option α) (d : TDisk) (home : Int) (l : List TPut) : jrnl_may_k n_ k0 d home l = (jrnl_may n_ d home l).bind k0 := by
  unfold jrnl_may jrnl_may_k; simp only [bind_cond, Option.bind_assoc, alt_bind, Option.bind_some, Option.bind_none, alt_inl, alt_inr]
@[reducible] def jrnl_noughts_k {α : Type} (k : Unit → α) : α :=
  k ()
def jrnl_noughts : Unit := jrnl_noughts_k id
theorem jrnl_noughts_bind {α : Type} (k : Unit → α) : jrnl_noughts_k k = k (jrnl_noughts) := by
  unfold jrnl_noughts jrnl_noughts_k; simp only [Bool.apply_cond k, id]
@[reducible] def jrnl_writer_does_k {α : Type} (k0 : Tjrnl_writer → Option α) (k1 : Tjrnl_writer → Option α) (d : TDisk) (ok : Bool) (w : Tjrnl_writer) : Option α :=
  bif (!ok) then k1 (Tjrnl_writer.mk d)
  else k0 (Tjrnl_writer.mk d)
def jrnl_writer_does (d : TDisk) (ok : Bool) (w : Tjrnl_writer) : Option (Tjrnl_writer ⊕ Tjrnl_writer) := jrnl_writer_does_k (fun x => some (.inl x)) (fun x => some (.inr x)) d ok w
theorem jrnl_writer_does_bind {α : Type} (k0 : Tjrnl_writer → Option α) (k1 : Tjrnl_writer → Option α) (d : TDisk) (ok : Bool) (w : Tjrnl_writer) : jrnl_writer_does_k k0 k1 d ok w = (jrnl_writer_does d ok w).bind (fun s0_ => alt s0_ k0 k1) := by
  unfold jrnl_writer_does jrnl_writer_does_k; simp only [bind_cond, Option.bind_assoc, alt_bind, Option.bind_some, Option.bind_none, alt_inl, alt_inr]
@[reducible] def jrnl_writer_write_k {α : Type} (k0 : (Tjrnl_writer × List (List UInt8) × List TPut) → Option α) (k1 : (Tjrnl_writer × List (List UInt8) × List TPut) → Option α) (i : Int) (b : List UInt8) (w : Tjrnl_writer) : Option α :=
  ((disk_Write w.d i b)).bind fun r_1 =>
  ((jrnl_writer_does r_1.1 r_1.2 w)).bind fun r_2 =>
  alt r_2 (fun a_3 =>
    k0 (a_3, w.d.Last, w.d.Wait)) (fun b_4 =>
    k1 (b_4, w.d.Last, w.d.Wait))
def jrnl_writer_write (i : Int) (b : List UInt8) (w : Tjrnl_writer) : Option ((Tjrnl_writer × List (List UInt8) × List TPut) ⊕ (Tjrnl_writer × List (List UInt8) × List TPut)) := jrnl_writer_write_k (fun x => some (.inl x)) (fun x => some (.inr x)) i b w
theorem jrnl_writer_write_bind {α : Type} (k0 : (Tjrnl_writer × List (List UInt8) × List TPut) → Option α) (k1 : (Tjrnl_writer × List (List UInt8) × List TPut) → Option α) (i : Int) (b : List UInt8) (w : Tjrnl_writer) : jrnl_writer_write_k k0 k1 i b w = (jrnl_writer_write i b w).bind (fun s0_ => alt s0_ k0 k1) := by
  unfold jrnl_writer_write jrnl_writer_write_k; simp only [bind_cond, Option.bind_assoc, alt_bind, Option.bind_some, Option.bind_none, alt_inl, alt_inr]
@[reducible] def jrnl_writer_does_2_k {α : Type} (k0 : Tjrnl_writer → Option α) (k1 : Tjrnl_writer → Option α) (d : TDisk) (ok : Bool) (w : Tjrnl_writer) : Option α :=
  bif (!ok) then k1 (Tjrnl_writer.mk d)
  else k0 (Tjrnl_writer.mk d)
def jrnl_writer_does_2 (d : TDisk) (ok : Bool) (w : Tjrnl_writer) : Option (Tjrnl_writer ⊕ Tjrnl_writer) := jrnl_writer_does_2_k (fun x => some (.inl x)) (fun x => some (.inr x)) d ok w
theorem jrnl_writer_does_2_bind {α : Type} (k0 : Tjrnl_writer → Option α) (k1 : Tjrnl_writer → Option α) (d : TDisk) (ok : Bool) (w : Tjrnl_writer) : jrnl_writer_does_2_k k0 k1 d ok w = (jrnl_writer_does_2 d ok w).bind (fun s0_ => alt s0_ k0 k1) := by
  unfold jrnl_writer_does_2 jrnl_writer_does_2_k; simp only [bind_cond, Option.bind_assoc, alt_bind, Option.bind_some, Option.bind_none, alt_inl, alt_inr]
@[reducible] def jrnl_writer_flush_k {α : Type} (k0 : Tjrnl_writer → Option α) (k1 : Tjrnl_writer → Option α) (w : Tjrnl_writer) : Option α :=
  ((disk_Flush n_ w.d)).bind fun r_1 =>
  ((jrnl_writer_does_2 r_1.1 r_1.2 w)).bind fun r_2 =>
  alt r_2 (fun a_3 =>
    k0 a_3) (fun b_4 =>
    k1 b_4)
def jrnl_writer_flush (w : Tjrnl_writer) : Option (Tjrnl_writer ⊕ Tjrnl_writer) := jrnl_writer_flush_k n_ (fun x => some (.inl x)) (fun x => some (.inr x)) w
theorem jrnl_writer_flush_bind {α : Type} (k0 : Tjrnl_writer → Option α) (k1 : Tjrnl_writer → Option α) (w : Tjrnl_writer) : jrnl_writer_flush_k n_ k0 k1 w = (jrnl_writer_flush n_ w).bind (fun s0_ => alt s0_ k0 k1) := by
  unfold jrnl_writer_flush jrnl_writer_flush_k; simp only [bind_cond, Option.bind_assoc, alt_bind, Option.bind_some, Option.bind_none, alt_inl, alt_inr]
@[reducible] def jrnl_writer_write_2_k {α : Type} (k0 : Tjrnl_writer → Option α) (k1 : Tjrnl_writer → Option α) (i : Int) (b : List UInt8) (w : Tjrnl_writer) : Option α :=
  ((disk_Write w.d i b)).bind fun r_1 =>
  ((jrnl_writer_does_2 r_1.1 r_1.2 w)).bind fun r_2 =>
  alt r_2 (fun a_3 =>
    k0 a_3) (fun b_4 =>
    k1 b_4)
def jrnl_writer_write_2 (i : Int) (b : List UInt8) (w : Tjrnl_writer) : Option (Tjrnl_writer ⊕ Tjrnl_writer) := jrnl_writer_write_2_k (fun x => some (.inl x)) (fun x => some (.inr x)) i b w
theorem jrnl_writer_write_2_bind {α : Type} (k0 : Tjrnl_writer → Option α) (k1 : Tjrnl_writer → Option α) (i : Int) (b : List UInt8) (w : Tjrnl_writer) : jrnl_writer_write_2_k k0 k1 i b w = (jrnl_writer_write_2 i b w).bind (fun s0_ => alt s0_ k0 k1) := by
  unfold jrnl_writer_write_2 jrnl_writer_write_2_k; simp only [bind_cond, Option.bind_assoc, alt_bind, Option.bind_some, Option.bind_none, alt_inl, alt_inr]
@[reducible] def jrnl_noughts_2_k {α : Type} (k : Unit → α) : α :=
  k ()
def jrnl_noughts_2 : Unit := jrnl_noughts_2_k id
theorem jrnl_noughts_2_bind {α : Type} (k : Unit → α) : jrnl_noughts_2_k k = k (jrnl_noughts_2) := by
  unfold jrnl_noughts_2 jrnl_noughts_2_k; simp only [Bool.apply_cond k, id]
@[reducible] def jrnl_head_s0k {α : Type} (t16 : List TPut) (t17 : Int) (kc : (Int × List UInt8) → Option α) (k0 : (List UInt8) → Option α) (t18 : Int) (b : List UInt8) : Option α :=
  bif (decide (t18 < t17)) then (bif (inR t18 t16.length) then (((t16[t18.toNat]?)).bind fun y_1 =>
      bif (inR (wi64 (2 + t18)) b.length) then (((b[(wi64 (2 + t18)).toNat]?)).bind fun y_2 =>
        kc ((wi64 (t18 + 1)), (b.set (wi64 (2 + t18)).toNat (b8 (wu8 y_1.At)))))
      else none)
    else none)
  else k0 b
def jrnl_head_s0 (t16 : List TPut) (t17 : Int) (v_ : Int × List UInt8) : Option ((Int × List UInt8) ⊕ (List UInt8)) := jrnl_head_s0k t16 t17 (fun x => some (.inl x)) (fun x => some (.inr x)) v_.1 v_.2
def jrnl_head_l0 (t16 : List TPut) (t17 : Int) (t18 : Int) (b : List UInt8) : Option (List UInt8) := iter (jrnl_head_s0 t16 t17) n_ (t18, b)
theorem jrnl_head_s0_bind {α : Type} (t16 : List TPut) (t17 : Int) (kc : (Int × List UInt8) → Option α) (k0 : (List UInt8) → Option α) (t18 : Int) (b : List UInt8) : jrnl_head_s0k t16 t17 kc k0 t18 b = (jrnl_head_s0 t16 t17 (t18, b)).bind fun s_ => alt s_ kc k0 := by
  unfold jrnl_head_s0 jrnl_head_s0k; simp only [bind_cond, Option.bind_assoc, alt_bind, Option.bind_some, Option.bind_none, alt_inl, alt_inr]
@[reducible] def jrnl_head_k {α : Type} (k0 : (List UInt8) → Option α) (l : List TPut) : Option α :=
  bif (inR 1 ([0, 0, 0, 0, 0, 0, 0, 0, 0, 0, 0, 0, 0, 0, 0, 0, 0, 0, 0, 0, 0, 0, 0, 0, 0, 0, 0, 0, 0, 0, 0, 0].set 0 1).length) then (((([0, 0, 0, 0, 0, 0, 0, 0, 0, 0, 0, 0, 0, 0, 0, 0, 0, 0, 0, 0, 0, 0, 0, 0, 0, 0, 0, 0, 0, 0, 0, 0].set 0 1)[1]?)).bind fun y_1 =>
    bif (inR 31 (([0, 0, 0, 0, 0, 0, 0, 0, 0, 0, 0, 0, 0, 0, 0, 0, 0, 0, 0, 0, 0, 0, 0, 0, 0, 0, 0, 0, 0, 0, 0, 0].set 0 1).set 1 (b8 (wu8 (l.length : Int)))).length) then ((((([0, 0, 0, 0, 0, 0, 0, 0, 0, 0, 0, 0, 0, 0, 0, 0, 0, 0, 0, 0, 0, 0, 0, 0, 0, 0, 0, 0, 0, 0, 0, 0].set 0 1).set 1 (b8 (wu8 (l.length : Int))))[31]?)).bind fun y_2 =>
      ((jrnl_head_l0 n_ l (l.length : Int) 0 ((([0, 0, 0, 0, 0, 0, 0, 0, 0, 0, 0, 0, 0, 0, 0, 0, 0, 0, 0, 0, 0, 0, 0, 0, 0, 0, 0, 0, 0, 0, 0, 0].set 0 1).set 1 (b8 (wu8 (l.length : Int)))).set 31 1))).bind fun r_3 =>
      k0 r_3)
    else none)
  else none
def jrnl_head (l : List TPut) : Option (List UInt8) := jrnl_head_k n_ (fun x => some x) l
theorem jrnl_head_bind {α : Type} (k0 : (List UInt8) → Option α) (l : List TPut) : jrnl_head_k n_ k0 l = (jrnl_head n_ l).bind k0 := by
  unfold jrnl_head jrnl_head_k; simp only [bind_cond, Option.bind_assoc, alt_bind, Option.bind_some, Option.bind_none, alt_inl, alt_inr]
@[reducible] def jrnl_Commit_s0k {α : Type} (home : Int) (l : List TPut) (t54 : List TPut) (t55 : Int) (o0 : TDisk) (ok : Bool) (r4 : List (List UInt8)) (r5 : List TPut) (kc : (Int × TDisk × Tjrnl_writer) → Option α) (k0 : (TDisk × Tjrnl_writer × TPut) → Option α) (k1 : (TDisk × Tjrnl_writer) → Option α) (t56 : Int) (x : TDisk) (w : Tjrnl_writer) : Option α :=
  bif (decide (t56 < t55)) then (bif (inR t56 t54.length) then (((t54[t56.toNat]?)).bind fun y_1 =>
      ((jrnl_writer_write_2 (wi64 ((wi64 (home + 1)) + t56)) y_1.B w)).bind fun r_2 =>
      alt r_2 (fun a_3 =>
        kc ((wi64 (t56 + 1)), (TDisk.mk [] [] x.Arm x.Down), a_3)) (fun b_4 =>
        k0 ((TDisk.mk [] [] x.Arm x.Down), b_4, y_1)))
    else none)
  else k1 ((TDisk.mk [] [] x.Arm x.Down), w)
def jrnl_Commit_s0 (home : Int) (l : List TPut) (t54 : List TPut) (t55 : Int) (o0 : TDisk) (ok : Bool) (r4 : List (List UInt8)) (r5 : List TPut) (v_ : Int × TDisk × Tjrnl_writer) : Option ((Int × TDisk × Tjrnl_writer) ⊕ ((TDisk × Tjrnl_writer × TPut) ⊕ (TDisk × Tjrnl_writer))) := jrnl_Commit_s0k home l t54 t55 o0 ok r4 r5 (fun x => some (.inl x)) (fun x => some (.inr (.inl x))) (fun x => some (.inr (.inr x))) v_.1 v_.2.1 v_.2.2
def jrnl_Commit_l0 (home : Int) (l : List TPut) (t54 : List TPut) (t55 : Int) (o0 : TDisk) (ok : Bool) (r4 : List (List UInt8)) (r5 : List TPut) (t56 : Int) (x : TDisk) (w : Tjrnl_writer) : Option ((TDisk × Tjrnl_writer × TPut) ⊕ (TDisk × Tjrnl_writer)) := iter (jrnl_Commit_s0 home l t54 t55 o0 ok r4 r5) n_ (t56, x, w)
theorem jrnl_Commit_s0_bind {α : Type} (home : Int) (l : List TPut) (t54 : List TPut) (t55 : Int) (o0 : TDisk) (ok : Bool) (r4 : List (List UInt8)) (r5 : List TPut) (kc : (Int × TDisk × Tjrnl_writer) → Option α) (k0 : (TDisk × Tjrnl_writer × TPut) → Option α) (k1 : (TDisk × Tjrnl_writer) → Option α) (t56 : Int) (x : TDisk) (w : Tjrnl_writer) : jrnl_Commit_s0k home l t54 t55 o0 ok r4 r5 kc k0 k1 t56 x w = (jrnl_Commit_s0 home l t54 t55 o0 ok r4 r5 (t56, x, w)).bind fun s_ => alt s_ kc (fun s0_ => alt s0_ k0 k1) := by
  unfold jrnl_Commit_s0 jrnl_Commit_s0k; simp only [bind_cond, Option.bind_assoc, alt_bind, Option.bind_some, Option.bind_none, alt_inl, alt_inr]
@[reducible] def jrnl_Commit_s1k {α : Type} (t79 : List TPut) (t80 : Int) (o0 : TDisk) (ok : Bool) (r4 : List (List UInt8)) (r5 : List TPut) (kc : (Int × TDisk × Tjrnl_writer) → Option α) (k0 : (TDisk × Tjrnl_writer × TPut) → Option α) (k1 : (TDisk × Tjrnl_writer) → Option α) (t81 : Int) (x : TDisk) (w : Tjrnl_writer) : Option α :=
  bif (decide (t81 < t80)) then (bif (inR t81 t79.length) then (((t79[t81.toNat]?)).bind fun y_1 =>
      ((jrnl_writer_write_2 y_1.At y_1.B w)).bind fun r_2 =>
      alt r_2 (fun a_3 =>
        kc ((wi64 (t81 + 1)), (TDisk.mk [] [] x.Arm x.Down), a_3)) (fun b_4 =>
        k0 ((TDisk.mk [] [] x.Arm x.Down), b_4, y_1)))
    else none)
  else k1 ((TDisk.mk [] [] x.Arm x.Down), w)
def jrnl_Commit_s1 (t79 : List TPut) (t80 : Int) (o0 : TDisk) (ok : Bool) (r4 : List (List UInt8)) (r5 : List TPut) (v_ : Int × TDisk × Tjrnl_writer) : Option ((Int × TDisk × Tjrnl_writer) ⊕ ((TDisk × Tjrnl_writer × TPut) ⊕ (TDisk × Tjrnl_writer))) := jrnl_Commit_s1k t79 t80 o0 ok r4 r5 (fun x => some (.inl x)) (fun x => some (.inr (.inl x))) (fun x => some (.inr (.inr x))) v_.1 v_.2.1 v_.2.2
def jrnl_Commit_l1 (t79 : List TPut) (t80 : Int) (o0 : TDisk) (ok : Bool) (r4 : List (List UInt8)) (r5 : List TPut) (t81 : Int) (x : TDisk) (w : Tjrnl_writer) : Option ((TDisk × Tjrnl_writer × TPut) ⊕ (TDisk × Tjrnl_writer)) := iter (jrnl_Commit_s1 t79 t80 o0 ok r4 r5) n_ (t81, x, w)
theorem jrnl_Commit_s1_bind {α : Type} (t79 : List TPut) (t80 : Int) (o0 : TDisk) (ok : Bool) (r4 : List (List UInt8)) (r5 : List TPut) (kc : (Int × TDisk × Tjrnl_writer) → Option α) (k0 : (TDisk × Tjrnl_writer × TPut) → Option α) (k1 : (TDisk × Tjrnl_writer) → Option α) (t81 : Int) (x : TDisk) (w : Tjrnl_writer) : jrnl_Commit_s1k t79 t80 o0 ok r4 r5 kc k0 k1 t81 x w = (jrnl_Commit_s1 t79 t80 o0 ok r4 r5 (t81, x, w)).bind fun s_ => alt s_ kc (fun s0_ => alt s0_ k0 k1) := by
  unfold jrnl_Commit_s1 jrnl_Commit_s1k; simp only [bind_cond, Option.bind_assoc, alt_bind, Option.bind_some, Option.bind_none, alt_inl, alt_inr]
@[reducible] def jrnl_Commit_k {α : Type} (k0 : (TDisk × Bool) → Option α) (d : TDisk) (home : Int) (l : List TPut) : Option α :=
  bif ((l.length : Int) == 0) then k0 (d, true)
  else ((jrnl_may n_ d home l)).bind fun r_1 =>
    bif (!r_1) then k0 (d, false)
    else ((jrnl_writer_write home [0, 0, 0, 0, 0, 0, 0, 0, 0, 0, 0, 0, 0, 0, 0, 0, 0, 0, 0, 0, 0, 0, 0, 0, 0, 0, 0, 0, 0, 0, 0, 0] (Tjrnl_writer.mk d))).bind fun r_2 =>
      alt r_2 (fun a_3 =>
        ((jrnl_writer_flush n_ a_3.1)).bind fun r_4 =>
        alt r_4 (fun a_5 =>
          ((jrnl_Commit_l0 n_ home l l (l.length : Int) d false a_3.2.1 a_3.2.2 0 (TDisk.mk [] [] 0 false) a_5)).bind fun r_6 =>
          alt r_6 (fun a_7 =>
            k0 (a_7.2.1.d, false)) (fun b_8 =>
            ((jrnl_writer_flush n_ b_8.2)).bind fun r_9 =>
            alt r_9 (fun a_10 =>
              ((jrnl_head n_ l)).bind fun r_11 =>
              ((jrnl_writer_write_2 home r_11 a_10)).bind fun r_12 =>
              alt r_12 (fun a_13 =>
                ((jrnl_writer_flush n_ a_13)).bind fun r_14 =>
                alt r_14 (fun a_15 =>
                  ((jrnl_Commit_l1 n_ l (l.length : Int) d false a_3.2.1 a_3.2.2 0 (TDisk.mk [] [] b_8.1.Arm b_8.1.Down) a_15)).bind fun r_16 =>
                  alt r_16 (fun a_17 =>
                    k0 (a_17.2.1.d, false)) (fun b_18 =>
                    ((jrnl_writer_flush n_ b_18.2)).bind fun r_19 =>
                    alt r_19 (fun a_20 =>
                      k0 (a_20.d, true)) (fun b_21 =>
                      k0 (b_21.d, false)))) (fun b_22 =>
                  k0 (b_22.d, false))) (fun b_23 =>
                k0 (b_23.d, false))) (fun b_24 =>
              k0 (b_24.d, false)))) (fun b_25 =>
          k0 (b_25.d, false))) (fun b_26 =>
        k0 (b_26.1.d, false))
def jrnl_Commit (d : TDisk) (home : Int) (l : List TPut) : Option (TDisk × Bool) := jrnl_Commit_k n_ (fun x => some x) d home l
theorem jrnl_Commit_bind {α : Type} (k0 : (TDisk × Bool) → Option α) (d : TDisk) (home : Int) (l : List TPut) : jrnl_Commit_k n_ k0 d home l = (jrnl_Commit n_ d home l).bind k0 := by
  unfold jrnl_Commit jrnl_Commit_k; simp only [bind_cond, Option.bind_assoc, alt_bind, Option.bind_some, Option.bind_none, alt_inl, alt_inr]
@[reducible] def image_Diff_s0k {α : Type} (a : List (List UInt8)) (t7 : List (List UInt8)) (t8 : Int) (kc : (Int × List TPut) → Option α) (k0 : (List TPut) → Option α) (t9 : Int) (l : List TPut) : Option α :=
  bif (decide (t9 < t8)) then (bif (inR t9 t7.length) then (((t7[t9.toNat]?)).bind fun y_1 =>
      bif (decide (t9 ≥ (a.length : Int))) then (bif (decide ((l.length + 1) ≤ lim)) then kc ((wi64 (t9 + 1)), (l ++ [(TPut.mk t9 y_1)]))
        else none)
      else bif (inR t9 a.length) then (((a[t9.toNat]?)).bind fun y_2 =>
          bif (!(y_2 == y_1)) then (bif (decide ((l.length + 1) ≤ lim)) then kc ((wi64 (t9 + 1)), (l ++ [(TPut.mk t9 y_1)]))
            else none)
          else kc ((wi64 (t9 + 1)), l))
        else none)
    else none)
  else k0 l
def image_Diff_s0 (a : List (List UInt8)) (t7 : List (List UInt8)) (t8 : Int) (v_ : Int × List TPut) : Option ((Int × List TPut) ⊕ (List TPut)) := image_Diff_s0k a t7 t8 (fun x => some (.inl x)) (fun x => some (.inr x)) v_.1 v_.2
def image_Diff_l0 (a : List (List UInt8)) (t7 : List (List UInt8)) (t8 : Int) (t9 : Int) (l : List TPut) : Option (List TPut) := iter (image_Diff_s0 a t7 t8) n_ (t9, l)
theorem image_Diff_s0_bind {α : Type} (a : List (List UInt8)) (t7 : List (List UInt8)) (t8 : Int) (kc : (Int × List TPut) → Option α) (k0 : (List TPut) → Option α) (t9 : Int) (l : List TPut) : image_Diff_s0k a t7 t8 kc k0 t9 l = (image_Diff_s0 a t7 t8 (t9, l)).bind fun s_ => alt s_ kc k0 := by
  unfold image_Diff_s0 image_Diff_s0k; simp only [bind_cond, Option.bind_assoc, alt_bind, Option.bind_some, Option.bind_none, alt_inl, alt_inr]
@[reducible] def image_Diff_k {α : Type} (k0 : (List TPut) → Option α) (a : List (List UInt8)) (b : List (List UInt8)) : Option α :=
  ((image_Diff_l0 n_ a b (b.length : Int) 0 [])).bind fun r_1 =>
  k0 r_1
def image_Diff (a : List (List UInt8)) (b : List (List UInt8)) : Option (List TPut) := image_Diff_k n_ (fun x => some x) a b
theorem image_Diff_bind {α : Type} (k0 : (List TPut) → Option α) (a : List (List UInt8)) (b : List (List UInt8)) : image_Diff_k n_ k0 a b = (image_Diff n_ a b).bind k0 := by
  unfold image_Diff image_Diff_k; simp only [bind_cond, Option.bind_assoc, alt_bind, Option.bind_some, Option.bind_none, alt_inl, alt_inr]
@[reducible] def store_Commit_k {α : Type} (k0 : (TStore × Bool) → Option α) (st : TStore) (s : TState) : Option α :=
  ((image_Put n_ s)).bind fun r_1 =>
  bif ((r_1.length : Int) == 0) then (((jrnl_Commit n_ st.D 0 [])).bind fun r_2 =>
    k0 ((TStore.mk r_2.1 st.S), false))
  else ((store_home n_)).bind fun r_3 =>
    ((image_Put n_ st.S)).bind fun r_4 =>
    ((image_Diff n_ r_4 r_1)).bind fun r_5 =>
    ((jrnl_Commit n_ st.D r_3 r_5)).bind fun r_6 =>
    bif r_6.2 then k0 ((TStore.mk r_6.1 s), r_6.2)
    else k0 ((TStore.mk r_6.1 st.S), r_6.2)
def store_Commit (st : TStore) (s : TState) : Option (TStore × Bool) := store_Commit_k n_ (fun x => some x) st s
theorem store_Commit_bind {α : Type} (k0 : (TStore × Bool) → Option α) (st : TStore) (s : TState) : store_Commit_k n_ k0 st s = (store_Commit n_ st s).bind k0 := by
  unfold store_Commit store_Commit_k; simp only [bind_cond, Option.bind_assoc, alt_bind, Option.bind_some, Option.bind_none, alt_inl, alt_inr]
@[reducible] def jrnl_writer_read_k {α : Type} (k0 : (List UInt8 × Tjrnl_writer × List (List UInt8) × List TPut) → Option α) (k1 : (Tjrnl_writer × List (List UInt8) × List TPut) → Option α) (i : Int) (w : Tjrnl_writer) : Option α :=
  ((jrnl_writer_does w.d (disk_Read w.d i).2 w)).bind fun r_1 =>
  alt r_1 (fun a_2 =>
    k0 ((disk_Read w.d i).1, a_2, w.d.Last, w.d.Wait)) (fun b_3 =>
    k1 (b_3, w.d.Last, w.d.Wait))
def jrnl_writer_read (i : Int) (w : Tjrnl_writer) : Option ((List UInt8 × Tjrnl_writer × List (List UInt8) × List TPut) ⊕ (Tjrnl_writer × List (List UInt8) × List TPut)) := jrnl_writer_read_k (fun x => some (.inl x)) (fun x => some (.inr x)) i w
theorem jrnl_writer_read_bind {α : Type} (k0 : (List UInt8 × Tjrnl_writer × List (List UInt8) × List TPut) → Option α) (k1 : (Tjrnl_writer × List (List UInt8) × List TPut) → Option α) (i : Int) (w : Tjrnl_writer) : jrnl_writer_read_k k0 k1 i w = (jrnl_writer_read i w).bind (fun s0_ => alt s0_ k0 k1) := by
  unfold jrnl_writer_read jrnl_writer_read_k; simp only [bind_cond, Option.bind_assoc, alt_bind, Option.bind_some, Option.bind_none, alt_inl, alt_inr]
@[reducible] def strings_trimRightByte_s0k {α : Type} (c : UInt8) (kc : (List UInt8) → Option α) (k0 : (List UInt8) → Option α) (s : List UInt8) : Option α :=
  bif (decide ((s.length : Int) > 0)) then (bif (inR (wi64 ((s.length : Int) - 1)) s.length) then (((s[(wi64 ((s.length : Int) - 1)).toNat]?)).bind fun y_1 =>
      bif ((i8 y_1) == (i8 c)) then (bif (cutOk 0 (wi64 ((s.length : Int) - 1)) s.length) then kc (cutL s 0 (wi64 ((s.length : Int) - 1)))
        else none)
      else k0 s)
    else none)
  else k0 s
def strings_trimRightByte_s0 (c : UInt8) (v_ : List UInt8) : Option ((List UInt8) ⊕ (List UInt8)) := strings_trimRightByte_s0k c (fun x => some (.inl x)) (fun x => some (.inr x)) v_
def strings_trimRightByte_l0 (c : UInt8) (s : List UInt8) : Option (List UInt8) := iter (strings_trimRightByte_s0 c) n_ s
theorem strings_trimRightByte_s0_bind {α : Type} (c : UInt8) (kc : (List UInt8) → Option α) (k0 : (List UInt8) → Option α) (s : List UInt8) : strings_trimRightByte_s0k c kc k0 s = (strings_trimRightByte_s0 c s).bind fun s_ => alt s_ kc k0 := by
  unfold strings_trimRightByte_s0 strings_trimRightByte_s0k; simp only [bind_cond, Option.bind_assoc, alt_bind, Option.bind_some, Option.bind_none, alt_inl, alt_inr]
@[reducible] def strings_trimRightByte_k {α : Type} (k0 : (List UInt8) → Option α) (s : List UInt8) (c : UInt8) : Option α :=
  ((strings_trimRightByte_l0 n_ c s)).bind fun r_1 =>
  k0 r_1
def strings_trimRightByte (s : List UInt8) (c : UInt8) : Option (List UInt8) := strings_trimRightByte_k n_ (fun x => some x) s c
theorem strings_trimRightByte_bind {α : Type} (k0 : (List UInt8) → Option α) (s : List UInt8) (c : UInt8) : strings_trimRightByte_k n_ k0 s c = (strings_trimRightByte n_ s c).bind k0 := by
  unfold strings_trimRightByte strings_trimRightByte_k; simp only [bind_cond, Option.bind_assoc, alt_bind, Option.bind_some, Option.bind_none, alt_inl, alt_inr]
@[reducible] def strings_trimLeftByte_s0k {α : Type} (c : UInt8) (kc : (List UInt8) → Option α) (k0 : (List UInt8) → Option α) (s : List UInt8) : Option α :=
  bif (decide ((s.length : Int) > 0)) then (bif (inR 0 s.length) then (((s[0]?)).bind fun y_1 =>
      bif ((i8 y_1) == (i8 c)) then (bif (cutOk 1 (s.length : Int) s.length) then kc (cutL s 1 (s.length : Int))
        else none)
      else k0 s)
    else none)
  else k0 s
def strings_trimLeftByte_s0 (c : UInt8) (v_ : List UInt8) : Option ((List UInt8) ⊕ (List UInt8)) := strings_trimLeftByte_s0k c (fun x => some (.inl x)) (fun x => some (.inr x)) v_
def strings_trimLeftByte_l0 (c : UInt8) (s : List UInt8) : Option (List UInt8) := iter (strings_trimLeftByte_s0 c) n_ s
theorem strings_trimLeftByte_s0_bind {α : Type} (c : UInt8) (kc : (List UInt8) → Option α) (k0 : (List UInt8) → Option α) (s : List UInt8) : strings_trimLeftByte_s0k c kc k0 s = (strings_trimLeftByte_s0 c s).bind fun s_ => alt s_ kc k0 := by
  unfold strings_trimLeftByte_s0 strings_trimLeftByte_s0k; simp only [bind_cond, Option.bind_assoc, alt_bind, Option.bind_some, Option.bind_none, alt_inl, alt_inr]
@[reducible] def strings_trimLeftByte_k {α : Type} (k0 : (List UInt8) → Option α) (s : List UInt8) (c : UInt8) : Option α :=
  ((strings_trimLeftByte_l0 n_ c s)).bind fun r_1 =>
  k0 r_1
def strings_trimLeftByte (s : List UInt8) (c : UInt8) : Option (List UInt8) := strings_trimLeftByte_k n_ (fun x => some x) s c
theorem strings_trimLeftByte_bind {α : Type} (k0 : (List UInt8) → Option α) (s : List UInt8) (c : UInt8) : strings_trimLeftByte_k n_ k0 s c = (strings_trimLeftByte n_ s c).bind k0 := by
  unfold strings_trimLeftByte strings_trimLeftByte_k; simp only [bind_cond, Option.bind_assoc, alt_bind, Option.bind_some, Option.bind_none, alt_inl, alt_inr]
@[reducible] def strings_Trim_k {α : Type} (k0 : (List UInt8) → Option α) (s : List UInt8) : Option α :=
  bif (s == []) then k0 s
  else ((strings_trimRightByte n_ s 0)).bind fun r_1 =>
    ((strings_trimLeftByte n_ r_1 0)).bind fun r_2 =>
    k0 r_2
def strings_Trim (s : List UInt8) : Option (List UInt8) := strings_Trim_k n_ (fun x => some x) s
theorem strings_Trim_bind {α : Type} (k0 : (List UInt8) → Option α) (s : List UInt8) : strings_Trim_k n_ k0 s = (strings_Trim n_ s).bind k0 := by
  unfold strings_Trim strings_Trim_k; simp only [bind_cond, Option.bind_assoc, alt_bind, Option.bind_some, Option.bind_none, alt_inl, alt_inr]
@[reducible] def jrnl_named_s0k {α : Type} (home : Int) (s : List UInt8) (n : Int) (t44 : Int) (o0 : TDisk) (r1 : List UInt8) (kc : (Int × Int × List Int) → Option α) (k0 : (List Int) → Option α) (k1 : (List Int) → Option α) (last : Int) (t45 : Int) (l : List Int) : Option α :=
  bif (decide (t45 < t44)) then (bif (inR t45 r1.length) then (((r1[t45.toNat]?)).bind fun y_1 =>
      bif (decide ((wi64 (i8 y_1)) ≤ last)) then k0 l
      else bif (decide ((wi64 (i8 y_1)) ≥ home)) then k0 l
        else bif (decide ((l.length + 1) ≤ lim)) then kc ((wi64 (i8 y_1)), (wi64 (t45 + 1)), (l ++ [(wi64 (i8 y_1))]))
          else none)
    else none)
  else k1 l
def jrnl_named_s0 (home : Int) (s : List UInt8) (n : Int) (t44 : Int) (o0 : TDisk) (r1 : List UInt8) (v_ : Int × Int × List Int) : Option ((Int × Int × List Int) ⊕ ((List Int) ⊕ (List Int))) := jrnl_named_s0k home s n t44 o0 r1 (fun x => some (.inl x)) (fun x => some (.inr (.inl x))) (fun x => some (.inr (.inr x))) v_.1 v_.2.1 v_.2.2
def jrnl_named_l0 (home : Int) (s : List UInt8) (n : Int) (t44 : Int) (o0 : TDisk) (r1 : List UInt8) (last : Int) (t45 : Int) (l : List Int) : Option ((List Int) ⊕ (List Int)) := iter (jrnl_named_s0 home s n t44 o0 r1) n_ (last, t45, l)
theorem jrnl_named_s0_bind {α : Type} (home : Int) (s : List UInt8) (n : Int) (t44 : Int) (o0 : TDisk) (r1 : List UInt8) (kc : (Int × Int × List Int) → Option α) (k0 : (List Int) → Option α) (k1 : (List Int) → Option α) (last : Int) (t45 : Int) (l : List Int) : jrnl_named_s0k home s n t44 o0 r1 kc k0 k1 last t45 l = (jrnl_named_s0 home s n t44 o0 r1 (last, t45, l)).bind fun s_ => alt s_ kc (fun s0_ => alt s0_ k0 k1) := by
  unfold jrnl_named_s0 jrnl_named_s0k; simp only [bind_cond, Option.bind_assoc, alt_bind, Option.bind_some, Option.bind_none, alt_inl, alt_inr]
@[reducible] def jrnl_named_k {α : Type} (k0 : (List Int × Bool) → Option α) (d : TDisk) (home : Int) (s : List UInt8) : Option α :=
  bif (inR 0 s.length) then (((s[0]?)).bind fun y_1 =>
    bif ((i8 y_1) != 1) then k0 ([], false)
    else bif (inR 31 s.length) then (((s[31]?)).bind fun y_2 =>
        bif ((i8 y_2) != 1) then k0 ([], false)
        else bif (inR 1 s.length) then (((s[1]?)).bind fun y_3 =>
            bif (decide ((wi64 (i8 y_3)) < 1)) then k0 ([], false)
            else bif (decide ((wi64 (i8 y_3)) > 16)) then k0 ([], false)
              else bif (decide ((wi64 (home + (wi64 (i8 y_3)))) ≥ (d.Last.length : Int))) then k0 ([], false)
                else bif (cutOk 2 (wi64 (2 + (wi64 (i8 y_3)))) s.length) then (((jrnl_named_l0 n_ home s (wi64 (i8 y_3)) ((cutL s 2 (wi64 (2 + (wi64 (i8 y_3))))).length : Int) d (cutL s 2 (wi64 (2 + (wi64 (i8 y_3))))) (-1) 0 [])).bind fun r_4 =>
                    alt r_4 (fun a_5 =>
                      k0 ([], false)) (fun b_6 =>
                      bif (cutOk (wi64 (2 + (wi64 (i8 y_3)))) 31 s.length) then (((strings_Trim n_ (cutL s (wi64 (2 + (wi64 (i8 y_3)))) 31))).bind fun r_7 =>
                        k0 (b_6, (r_7 == [])))
                      else none))
                  else none)
          else none)
      else none)
  else none
def jrnl_named (d : TDisk) (home : Int) (s : List UInt8) : Option (List Int × Bool) := jrnl_named_k n_ (fun x => some x) d home s
theorem jrnl_named_bind {α : Type} (k0 : (List Int × Bool) → Option α) (d : TDisk) (home : Int) (s : List UInt8) : jrnl_named_k n_ k0 d home s = (jrnl_named n_ d home s).bind k0 := by
  unfold jrnl_named jrnl_named_k; simp only [bind_cond, Option.bind_assoc, alt_bind, Option.bind_some, Option.bind_none, alt_inl, alt_inr]
@[reducible] def jrnl_writer_read_2_k {α : Type} (k0 : (List UInt8 × Tjrnl_writer) → Option α) (k1 : Tjrnl_writer → Option α) (i : Int) (w : Tjrnl_writer) : Option α :=
  ((jrnl_writer_does_2 w.d (disk_Read w.d i).2 w)).bind fun r_1 =>
  alt r_1 (fun a_2 =>
    k0 ((disk_Read w.d i).1, a_2)) (fun b_3 =>
    k1 b_3)
def jrnl_writer_read_2 (i : Int) (w : Tjrnl_writer) : Option ((List UInt8 × Tjrnl_writer) ⊕ Tjrnl_writer) := jrnl_writer_read_2_k (fun x => some (.inl x)) (fun x => some (.inr x)) i w
theorem jrnl_writer_read_2_bind {α : Type} (k0 : (List UInt8 × Tjrnl_writer) → Option α) (k1 : Tjrnl_writer → Option α) (i : Int) (w : Tjrnl_writer) : jrnl_writer_read_2_k k0 k1 i w = (jrnl_writer_read_2 i w).bind (fun s0_ => alt s0_ k0 k1) := by
  unfold jrnl_writer_read_2 jrnl_writer_read_2_k; simp only [bind_cond, Option.bind_assoc, alt_bind, Option.bind_some, Option.bind_none, alt_inl, alt_inr]
@[reducible] def jrnl_Mend_s0k {α : Type} (home : Int) (t53 : List Int) (t54 : Int) (o0 : TDisk) (ok : Bool) (r4 : List (List UInt8)) (r5 : List TPut) (kc : (Int × TDisk × Tjrnl_writer) → Option α) (k0 : (TDisk × Tjrnl_writer) → Option α) (k1 : (TDisk × Tjrnl_writer) → Option α) (t55 : Int) (x : TDisk) (w : Tjrnl_writer) : Option α :=
  bif (decide (t55 < t54)) then (bif (inR t55 t53.length) then (((t53[t55.toNat]?)).bind fun y_1 =>
      ((jrnl_writer_read_2 (wi64 ((wi64 (home + 1)) + t55)) w)).bind fun r_2 =>
      alt r_2 (fun a_3 =>
        ((jrnl_writer_write_2 y_1 a_3.1 a_3.2)).bind fun r_4 =>
        alt r_4 (fun a_5 =>
          kc ((wi64 (t55 + 1)), (TDisk.mk [] [] x.Arm x.Down), a_5)) (fun b_6 =>
          k0 ((TDisk.mk [] [] x.Arm x.Down), b_6))) (fun b_7 =>
        k0 ((TDisk.mk [] [] x.Arm x.Down), b_7)))
    else none)
  else k1 ((TDisk.mk [] [] x.Arm x.Down), w)
def jrnl_Mend_s0 (home : Int) (t53 : List Int) (t54 : Int) (o0 : TDisk) (ok : Bool) (r4 : List (List UInt8)) (r5 : List TPut) (v_ : Int × TDisk × Tjrnl_writer) : Option ((Int × TDisk × Tjrnl_writer) ⊕ ((TDisk × Tjrnl_writer) ⊕ (TDisk × Tjrnl_writer))) := jrnl_Mend_s0k home t53 t54 o0 ok r4 r5 (fun x => some (.inl x)) (fun x => some (.inr (.inl x))) (fun x => some (.inr (.inr x))) v_.1 v_.2.1 v_.2.2
def jrnl_Mend_l0 (home : Int) (t53 : List Int) (t54 : Int) (o0 : TDisk) (ok : Bool) (r4 : List (List UInt8)) (r5 : List TPut) (t55 : Int) (x : TDisk) (w : Tjrnl_writer) : Option ((TDisk × Tjrnl_writer) ⊕ (TDisk × Tjrnl_writer)) := iter (jrnl_Mend_s0 home t53 t54 o0 ok r4 r5) n_ (t55, x, w)
theorem jrnl_Mend_s0_bind {α : Type} (home : Int) (t53 : List Int) (t54 : Int) (o0 : TDisk) (ok : Bool) (r4 : List (List UInt8)) (r5 : List TPut) (kc : (Int × TDisk × Tjrnl_writer) → Option α) (k0 : (TDisk × Tjrnl_writer) → Option α) (k1 : (TDisk × Tjrnl_writer) → Option α) (t55 : Int) (x : TDisk) (w : Tjrnl_writer) : jrnl_Mend_s0k home t53 t54 o0 ok r4 r5 kc k0 k1 t55 x w = (jrnl_Mend_s0 home t53 t54 o0 ok r4 r5 (t55, x, w)).bind fun s_ => alt s_ kc (fun s0_ => alt s0_ k0 k1) := by
  unfold jrnl_Mend_s0 jrnl_Mend_s0k; simp only [bind_cond, Option.bind_assoc, alt_bind, Option.bind_some, Option.bind_none, alt_inl, alt_inr]
@[reducible] def jrnl_Mend_k {α : Type} (k0 : (TDisk × Bool) → Option α) (d : TDisk) (home : Int) : Option α :=
  ((jrnl_writer_read home (Tjrnl_writer.mk d))).bind fun r_1 =>
  alt r_1 (fun a_2 =>
    bif ((a_2.1.length : Int) != 32) then k0 (a_2.2.1.d, false)
    else ((jrnl_named n_ d home a_2.1)).bind fun r_3 =>
      bif (!r_3.2) then k0 (a_2.2.1.d, false)
      else ((jrnl_Mend_l0 n_ home r_3.1 (r_3.1.length : Int) d false a_2.2.2.1 a_2.2.2.2 0 (TDisk.mk [] [] 0 false) a_2.2.1)).bind fun r_4 =>
        alt r_4 (fun a_5 =>
          k0 (a_5.2.d, false)) (fun b_6 =>
          ((jrnl_writer_flush n_ b_6.2)).bind fun r_7 =>
          alt r_7 (fun a_8 =>
            k0 (a_8.d, true)) (fun b_9 =>
            k0 (b_9.d, false)))) (fun b_10 =>
    k0 (b_10.1.d, false))
def jrnl_Mend (d : TDisk) (home : Int) : Option (TDisk × Bool) := jrnl_Mend_k n_ (fun x => some x) d home
theorem jrnl_Mend_bind {α : Type} (k0 : (TDisk × Bool) → Option α) (d : TDisk) (home : Int) : jrnl_Mend_k n_ k0 d home = (jrnl_Mend n_ d home).bind k0 := by
  unfold jrnl_Mend jrnl_Mend_k; simp only [bind_cond, Option.bind_assoc, alt_bind, Option.bind_some, Option.bind_none, alt_inl, alt_inr]
@[reducible] def store_sectors_s0k {α : Type} (t6 : Int) (d : TDisk) (kc : (Int × List (List UInt8)) → Option α) (k0 : (List (List UInt8)) → Option α) (k1 : (List (List UInt8)) → Option α) (t7 : Int) (l : List (List UInt8)) : Option α :=
  bif (decide (t7 < t6)) then (bif (!(disk_Read d t7).2) then k0 l
    else bif (decide ((l.length + 1) ≤ lim)) then kc ((wi64 (t7 + 1)), (l ++ [(disk_Read d t7).1]))
      else none)
  else k1 l
def store_sectors_s0 (t6 : Int) (d : TDisk) (v_ : Int × List (List UInt8)) : Option ((Int × List (List UInt8)) ⊕ ((List (List UInt8)) ⊕ (List (List UInt8)))) := store_sectors_s0k t6 d (fun x => some (.inl x)) (fun x => some (.inr (.inl x))) (fun x => some (.inr (.inr x))) v_.1 v_.2
def store_sectors_l0 (t6 : Int) (d : TDisk) (t7 : Int) (l : List (List UInt8)) : Option ((List (List UInt8)) ⊕ (List (List UInt8))) := iter (store_sectors_s0 t6 d) n_ (t7, l)
theorem store_sectors_s0_bind {α : Type} (t6 : Int) (d : TDisk) (kc : (Int × List (List UInt8)) → Option α) (k0 : (List (List UInt8)) → Option α) (k1 : (List (List UInt8)) → Option α) (t7 : Int) (l : List (List UInt8)) : store_sectors_s0k t6 d kc k0 k1 t7 l = (store_sectors_s0 t6 d (t7, l)).bind fun s_ => alt s_ kc (fun s0_ => alt s0_ k0 k1) := by
  unfold store_sectors_s0 store_sectors_s0k; simp only [bind_cond, Option.bind_assoc, alt_bind, Option.bind_some, Option.bind_none, alt_inl, alt_inr]
@[reducible] def store_sectors_k {α : Type} (k0 : (List (List UInt8)) → Option α) (k1 : Unit → Option α) (d : TDisk) : Option α :=
  ((store_home n_)).bind fun r_1 =>
  ((store_sectors_l0 n_ r_1 d 0 [])).bind fun r_2 =>
  alt r_2 (fun a_3 =>
    k1 ()) (fun b_4 =>
    k0 b_4)
def store_sectors (d : TDisk) : Option ((List (List UInt8)) ⊕ Unit) := store_sectors_k n_ (fun x => some (.inl x)) (fun x => some (.inr x)) d
theorem store_sectors_bind {α : Type} (k0 : (List (List UInt8)) → Option α) (k1 : Unit → Option α) (d : TDisk) : store_sectors_k n_ k0 k1 d = (store_sectors n_ d).bind (fun s0_ => alt s0_ k0 k1) := by
  unfold store_sectors store_sectors_k; simp only [bind_cond, Option.bind_assoc, alt_bind, Option.bind_some, Option.bind_none, alt_inl, alt_inr]
@[reducible] def bits_front_k {α : Type} (k0 : (List UInt8) → Option α) (k1 : Unit → Option α) (b : List UInt8) (n : Int) : Option α :=
  bif (decide ((b.length : Int) < n)) then k1 ()
  else bif (cutOk 0 n b.length) then k0 (cutL b 0 n)
    else none
def bits_front (b : List UInt8) (n : Int) : Option ((List UInt8) ⊕ Unit) := bits_front_k (fun x => some (.inl x)) (fun x => some (.inr x)) b n
theorem bits_front_bind {α : Type} (k0 : (List UInt8) → Option α) (k1 : Unit → Option α) (b : List UInt8) (n : Int) : bits_front_k k0 k1 b n = (bits_front b n).bind (fun s0_ => alt s0_ k0 k1) := by
  unfold bits_front bits_front_k; simp only [bind_cond, Option.bind_assoc, alt_bind, Option.bind_some, Option.bind_none, alt_inl, alt_inr]
@[reducible] def bits_Take_s0k {α : Type} (t16 : List UInt8) (t17 : Int) (ok : Bool) (kc : (Int × Int) → Option α) (k0 : Int → Option α) (v : Int) (t18 : Int) : Option α :=
  bif (decide (t18 < t17)) then (bif (inR t18 t16.length) then (((t16[t18.toNat]?)).bind fun y_1 =>
      kc ((bor .i64 (shlI .i64 v 8) (wi64 (i8 y_1))), (wi64 (t18 + 1))))
    else none)
  else k0 v
def bits_Take_s0 (t16 : List UInt8) (t17 : Int) (ok : Bool) (v_ : Int × Int) : Option ((Int × Int) ⊕ Int) := bits_Take_s0k t16 t17 ok (fun x => some (.inl x)) (fun x => some (.inr x)) v_.1 v_.2
def bits_Take_l0 (t16 : List UInt8) (t17 : Int) (ok : Bool) (v : Int) (t18 : Int) : Option Int := iter (bits_Take_s0 t16 t17 ok) n_ (v, t18)
theorem bits_Take_s0_bind {α : Type} (t16 : List UInt8) (t17 : Int) (ok : Bool) (kc : (Int × Int) → Option α) (k0 : Int → Option α) (v : Int) (t18 : Int) : bits_Take_s0k t16 t17 ok kc k0 v t18 = (bits_Take_s0 t16 t17 ok (v, t18)).bind fun s_ => alt s_ kc k0 := by
  unfold bits_Take_s0 bits_Take_s0k; simp only [bind_cond, Option.bind_assoc, alt_bind, Option.bind_some, Option.bind_none, alt_inl, alt_inr]
@[reducible] def bits_Take_k {α : Type} (k0 : (Int × Bool) → Option α) (b : List UInt8) (n : Int) : Option α :=
  bif (decide (n < 1)) then k0 (0, false)
  else bif (decide (n > 7)) then k0 (0, false)
    else ((bits_front b n)).bind fun r_1 =>
      alt r_1 (fun a_2 =>
        ((bits_Take_l0 n_ a_2 (a_2.length : Int) false 0 0)).bind fun r_3 =>
        k0 (r_3, true)) (fun b_4 =>
        k0 (0, false))
def bits_Take (b : List UInt8) (n : Int) : Option (Int × Bool) := bits_Take_k n_ (fun x => some x) b n
theorem bits_Take_bind {α : Type} (k0 : (Int × Bool) → Option α) (b : List UInt8) (n : Int) : bits_Take_k n_ k0 b n = (bits_Take n_ b n).bind k0 := by
  unfold bits_Take bits_Take_k; simp only [bind_cond, Option.bind_assoc, alt_bind, Option.bind_some, Option.bind_none, alt_inl, alt_inr]
@[reducible] def image_reader_num_k {α : Type} (k0 : (Int × Timage_reader × List UInt8) → Option α) (k1 : Unit → Option α) (n : Int) (r : Timage_reader) : Option α :=
  ((bits_Take n_ r.b n)).bind fun r_1 =>
  bif (!r_1.2) then k1 ()
  else bif (cutOk n (r.b.length : Int) r.b.length) then k0 (r_1.1, (Timage_reader.mk (cutL r.b n (r.b.length : Int))), r.b)
    else none
def image_reader_num (n : Int) (r : Timage_reader) : Option ((Int × Timage_reader × List UInt8) ⊕ Unit) := image_reader_num_k n_ (fun x => some (.inl x)) (fun x => some (.inr x)) n r
theorem image_reader_num_bind {α : Type} (k0 : (Int × Timage_reader × List UInt8) → Option α) (k1 : Unit → Option α) (n : Int) (r : Timage_reader) : image_reader_num_k n_ k0 k1 n r = (image_reader_num n_ n r).bind (fun s0_ => alt s0_ k0 k1) := by
  unfold image_reader_num image_reader_num_k; simp only [bind_cond, Option.bind_assoc, alt_bind, Option.bind_some, Option.bind_none, alt_inl, alt_inr]
@[reducible] def image_reader_num_2_k {α : Type} (k0 : (Int × Timage_reader) → Option α) (k1 : Unit → Option α) (n : Int) (r : Timage_reader) : Option α :=
  ((bits_Take n_ r.b n)).bind fun r_1 =>
  bif (!r_1.2) then k1 ()
  else bif (cutOk n (r.b.length : Int) r.b.length) then k0 (r_1.1, (Timage_reader.mk (cutL r.b n (r.b.length : Int))))
    else none
def image_reader_num_2 (n : Int) (r : Timage_reader) : Option ((Int × Timage_reader) ⊕ Unit) := image_reader_num_2_k n_ (fun x => some (.inl x)) (fun x => some (.inr x)) n r
theorem image_reader_num_2_bind {α : Type} (k0 : (Int × Timage_reader) → Option α) (k1 : Unit → Option α) (n : Int) (r : Timage_reader) : image_reader_num_2_k n_ k0 k1 n r = (image_reader_num_2 n_ n r).bind (fun s0_ => alt s0_ k0 k1) := by
  unfold image_reader_num_2 image_reader_num_2_k; simp only [bind_cond, Option.bind_assoc, alt_bind, Option.bind_some, Option.bind_none, alt_inl, alt_inr]
@[reducible] def bits_TakeText_k {α : Type} (k0 : (List UInt8 × Int × Bool) → Option α) (b : List UInt8) : Option α :=
  ((bits_front b 1)).bind fun r_1 =>
  alt r_1 (fun a_2 =>
    bif (inR 0 a_2.length) then (((a_2[0]?)).bind fun y_3 =>
      bif (decide ((b.length : Int) < (wi64 ((wi64 (i8 y_3)) + 1)))) then k0 ([], 0, false)
      else bif (cutOk 1 (wi64 ((wi64 (i8 y_3)) + 1)) b.length) then k0 ((cutL b 1 (wi64 ((wi64 (i8 y_3)) + 1))), (wi64 ((wi64 (i8 y_3)) + 1)), true)
        else none)
    else none) (fun b_4 =>
    k0 ([], 0, false))
def bits_TakeText (b : List UInt8) : Option (List UInt8 × Int × Bool) := bits_TakeText_k (fun x => some x) b
theorem bits_TakeText_bind {α : Type} (k0 : (List UInt8 × Int × Bool) → Option α) (b : List UInt8) : bits_TakeText_k k0 b = (bits_TakeText b).bind k0 := by
  unfold bits_TakeText bits_TakeText_k; simp only [bind_cond, Option.bind_assoc, alt_bind, Option.bind_some, Option.bind_none, alt_inl, alt_inr]
@[reducible] def image_reader_text_k {α : Type} (k0 : (List UInt8 × Timage_reader) → Option α) (k1 : Unit → Option α) (n : Int) (r : Timage_reader) : Option α :=
  ((bits_TakeText r.b)).bind fun r_1 =>
  bif (!r_1.2.2) then k1 ()
  else bif (decide (r_1.2.1 > n)) then k1 ()
    else bif (decide ((r.b.length : Int) < n)) then k1 ()
      else bif (cutOk n (r.b.length : Int) r.b.length) then k0 (r_1.1, (Timage_reader.mk (cutL r.b n (r.b.length : Int))))
        else none
def image_reader_text (n : Int) (r : Timage_reader) : Option ((List UInt8 × Timage_reader) ⊕ Unit) := image_reader_text_k (fun x => some (.inl x)) (fun x => some (.inr x)) n r
theorem image_reader_text_bind {α : Type} (k0 : (List UInt8 × Timage_reader) → Option α) (k1 : Unit → Option α) (n : Int) (r : Timage_reader) : image_reader_text_k k0 k1 n r = (image_reader_text n r).bind (fun s0_ => alt s0_ k0 k1) := by
  unfold image_reader_text image_reader_text_k; simp only [bind_cond, Option.bind_assoc, alt_bind, Option.bind_some, Option.bind_none, alt_inl, alt_inr]
@[reducible] def image_reader_read_s0k {α : Type} (r1 : List UInt8) (kc : (Int × Timage_reader × TState) → Option α) (k0 : (Timage_reader × TState) → Option α) (k1 : (Timage_reader × TState) → Option α) (t7 : Int) (r : Timage_reader) (s : TState) : Option α :=
  bif (decide (t7 < 3)) then (((image_reader_num_2 n_ 4 r)).bind fun r_1 =>
    alt r_1 (fun a_2 =>
      ((image_reader_num_2 n_ 1 a_2.2)).bind fun r_3 =>
      alt r_3 (fun a_4 =>
        ((image_reader_num_2 n_ 1 a_4.2)).bind fun r_5 =>
        alt r_5 (fun a_6 =>
          ((image_reader_num_2 n_ 4 a_6.2)).bind fun r_7 =>
          alt r_7 (fun a_8 =>
            bif (decide ((s.Marks.length + 1) ≤ lim)) then kc ((wi64 (t7 + 1)), a_8.2, (TState.mk [] (s.Marks ++ [(TMark.mk a_2.1 a_4.1 a_6.1 a_8.1)]) s.Epoch))
            else none) (fun b_9 =>
            k0 (a_6.2, (TState.mk [] s.Marks s.Epoch)))) (fun b_10 =>
          k0 (a_4.2, (TState.mk [] s.Marks s.Epoch)))) (fun b_11 =>
        k0 (a_2.2, (TState.mk [] s.Marks s.Epoch)))) (fun b_12 =>
      k0 (r, (TState.mk [] s.Marks s.Epoch))))
  else k1 (r, (TState.mk [] s.Marks s.Epoch))
def image_reader_read_s0 (r1 : List UInt8) (v_ : Int × Timage_reader × TState) : Option ((Int × Timage_reader × TState) ⊕ ((Timage_reader × TState) ⊕ (Timage_reader × TState))) := image_reader_read_s0k n_ r1 (fun x => some (.inl x)) (fun x => some (.inr (.inl x))) (fun x => some (.inr (.inr x))) v_.1 v_.2.1 v_.2.2
def image_reader_read_l0 (r1 : List UInt8) (t7 : Int) (r : Timage_reader) (s : TState) : Option ((Timage_reader × TState) ⊕ (Timage_reader × TState)) := iter (image_reader_read_s0 n_ r1) n_ (t7, r, s)
theorem image_reader_read_s0_bind {α : Type} (r1 : List UInt8) (kc : (Int × Timage_reader × TState) → Option α) (k0 : (Timage_reader × TState) → Option α) (k1 : (Timage_reader × TState) → Option α) (t7 : Int) (r : Timage_reader) (s : TState) : image_reader_read_s0k n_ r1 kc k0 k1 t7 r s = (image_reader_read_s0 n_ r1 (t7, r, s)).bind fun s_ => alt s_ kc (fun s0_ => alt s0_ k0 k1) := by
  unfold image_reader_read_s0 image_reader_read_s0k; simp only [bind_cond, Option.bind_assoc, alt_bind, Option.bind_some, Option.bind_none, alt_inl, alt_inr]
@[reducible] def image_reader_read_s1k {α : Type} (r1 : List UInt8) (kc : (Int × Timage_reader × TState) → Option α) (k0 : (Timage_reader × TState) → Option α) (k1 : (Timage_reader × TState × TFile) → Option α) (k2 : (Timage_reader × TState) → Option α) (t24 : Int) (r : Timage_reader) (s : TState) : Option α :=
  bif (decide (t24 < 6)) then (((image_reader_text 9 r)).bind fun r_1 =>
    alt r_1 (fun a_2 =>
      ((image_reader_num_2 n_ 4 a_2.2)).bind fun r_3 =>
      alt r_3 (fun a_4 =>
        ((image_reader_text 25 a_4.2)).bind fun r_5 =>
        alt r_5 (fun a_6 =>
          bif (decide ((s.Files.length + 1) ≤ lim)) then kc ((wi64 (t24 + 1)), a_6.2, (TState.mk (s.Files ++ [(TFile.mk a_2.1 a_4.1 a_6.1)]) s.Marks s.Epoch))
          else none) (fun b_7 =>
          k1 (a_4.2, s, (TFile.mk a_2.1 a_4.1 [])))) (fun b_8 =>
        k0 (a_2.2, s))) (fun b_9 =>
      k0 (r, s)))
  else k2 (r, s)
def image_reader_read_s1 (r1 : List UInt8) (v_ : Int × Timage_reader × TState) : Option ((Int × Timage_reader × TState) ⊕ ((Timage_reader × TState) ⊕ ((Timage_reader × TState × TFile) ⊕ (Timage_reader × TState)))) := image_reader_read_s1k n_ r1 (fun x => some (.inl x)) (fun x => some (.inr (.inl x))) (fun x => some (.inr (.inr (.inl x)))) (fun x => some (.inr (.inr (.inr x)))) v_.1 v_.2.1 v_.2.2
def image_reader_read_l1 (r1 : List UInt8) (t24 : Int) (r : Timage_reader) (s : TState) : Option ((Timage_reader × TState) ⊕ ((Timage_reader × TState × TFile) ⊕ (Timage_reader × TState))) := iter (image_reader_read_s1 n_ r1) n_ (t24, r, s)
theorem image_reader_read_s1_bind {α : Type} (r1 : List UInt8) (kc : (Int × Timage_reader × TState) → Option α) (k0 : (Timage_reader × TState) → Option α) (k1 : (Timage_reader × TState × TFile) → Option α) (k2 : (Timage_reader × TState) → Option α) (t24 : Int) (r : Timage_reader) (s : TState) : image_reader_read_s1k n_ r1 kc k0 k1 k2 t24 r s = (image_reader_read_s1 n_ r1 (t24, r, s)).bind fun s_ => alt s_ kc (fun s0_ => alt s0_ k0 (fun s1_ => alt s1_ k1 k2)) := by
  unfold image_reader_read_s1 image_reader_read_s1k; simp only [bind_cond, Option.bind_assoc, alt_bind, Option.bind_some, Option.bind_none, alt_inl, alt_inr]
@[reducible] def image_reader_read_k {α : Type} (k0 : (TState × Timage_reader × List UInt8) → Option α) (k1 : Unit → Option α) (k2 : (Timage_reader × List UInt8) → Option α) (r : Timage_reader) : Option α :=
  ((image_reader_num n_ 4 r)).bind fun r_1 =>
  alt r_1 (fun a_2 =>
    ((image_reader_read_l0 n_ a_2.2.2 0 a_2.2.1 (TState.mk [] [] a_2.1))).bind fun r_3 =>
    alt r_3 (fun a_4 =>
      k2 (a_4.1, a_2.2.2)) (fun b_5 =>
      ((image_reader_read_l1 n_ a_2.2.2 0 b_5.1 (TState.mk [] b_5.2.Marks b_5.2.Epoch))).bind fun r_6 =>
      alt r_6 (fun a_7 =>
        k2 (a_7.1, a_2.2.2)) (fun b_8 =>
        alt b_8 (fun a_9 =>
          k2 (a_9.1, a_2.2.2)) (fun b_10 =>
          k0 (b_10.2, b_10.1, a_2.2.2))))) (fun b_11 =>
    k1 ())
def image_reader_read (r : Timage_reader) : Option ((TState × Timage_reader × List UInt8) ⊕ (Unit ⊕ (Timage_reader × List UInt8))) := image_reader_read_k n_ (fun x => some (.inl x)) (fun x => some (.inr (.inl x))) (fun x => some (.inr (.inr x))) r
theorem image_reader_read_bind {α : Type} (k0 : (TState × Timage_reader × List UInt8) → Option α) (k1 : Unit → Option α) (k2 : (Timage_reader × List UInt8) → Option α) (r : Timage_reader) : image_reader_read_k n_ k0 k1 k2 r = (image_reader_read n_ r).bind (fun s0_ => alt s0_ k0 (fun s1_ => alt s1_ k1 k2)) := by
  unfold image_reader_read image_reader_read_k; simp only [bind_cond, Option.bind_assoc, alt_bind, Option.bind_some, Option.bind_none, alt_inl, alt_inr]
@[reducible] def slices_Equal_string_s0k {α : Type} (s1 : List (List UInt8)) (s2 : List (List UInt8)) (t12 : Int) (kc : Int → Option α) (k0 : Unit → Option α) (k1 : Unit → Option α) (t13 : Int) : Option α :=
  bif (decide (t13 < t12)) then (bif (inR t13 s1.length) then (((s1[t13.toNat]?)).bind fun y_1 =>
      bif (inR t13 s2.length) then (((s2[t13.toNat]?)).bind fun y_2 =>
        bif (!(y_1 == y_2)) then k0 ()
        else kc (wi64 (t13 + 1)))
      else none)
    else none)
  else k1 ()
def slices_Equal_string_s0 (s1 : List (List UInt8)) (s2 : List (List UInt8)) (t12 : Int) (v_ : Int) : Option (Int ⊕ (Unit ⊕ Unit)) := slices_Equal_string_s0k s1 s2 t12 (fun x => some (.inl x)) (fun x => some (.inr (.inl x))) (fun x => some (.inr (.inr x))) v_
def slices_Equal_string_l0 (s1 : List (List UInt8)) (s2 : List (List UInt8)) (t12 : Int) (t13 : Int) : Option (Unit ⊕ Unit) := iter (slices_Equal_string_s0 s1 s2 t12) n_ t13
theorem slices_Equal_string_s0_bind {α : Type} (s1 : List (List UInt8)) (s2 : List (List UInt8)) (t12 : Int) (kc : Int → Option α) (k0 : Unit → Option α) (k1 : Unit → Option α) (t13 : Int) : slices_Equal_string_s0k s1 s2 t12 kc k0 k1 t13 = (slices_Equal_string_s0 s1 s2 t12 t13).bind fun s_ => alt s_ kc (fun s0_ => alt s0_ k0 k1) := by
  unfold slices_Equal_string_s0 slices_Equal_string_s0k; simp only [bind_cond, Option.bind_assoc, alt_bind, Option.bind_some, Option.bind_none, alt_inl, alt_inr]
@[reducible] def slices_Equal_string_k {α : Type} (k0 : Bool → Option α) (s1 : List (List UInt8)) (s2 : List (List UInt8)) : Option α :=
  bif ((s1.length : Int) != (s2.length : Int)) then k0 false
  else ((slices_Equal_string_l0 n_ s1 s2 (s1.length : Int) 0)).bind fun r_1 =>
    alt r_1 (fun a_2 =>
      k0 false) (fun b_3 =>
      k0 true)
def slices_Equal_string (s1 : List (List UInt8)) (s2 : List (List UInt8)) : Option Bool := slices_Equal_string_k n_ (fun x => some x) s1 s2
theorem slices_Equal_string_bind {α : Type} (k0 : Bool → Option α) (s1 : List (List UInt8)) (s2 : List (List UInt8)) : slices_Equal_string_k n_ k0 s1 s2 = (slices_Equal_string n_ s1 s2).bind k0 := by
  unfold slices_Equal_string slices_Equal_string_k; simp only [bind_cond, Option.bind_assoc, alt_bind, Option.bind_some, Option.bind_none, alt_inl, alt_inr]
@[reducible] def image_Take_k {α : Type} (k0 : (TState × Bool) → Option α) (l : List (List UInt8)) : Option α :=
  bif (joinOk l []) then (((image_reader_read n_ (Timage_reader.mk (joinL l [])))).bind fun r_1 =>
    alt r_1 (fun a_2 =>
      ((state_May n_ a_2.1)).bind fun r_3 =>
      bif (!r_3) then k0 ((TState.mk [] [] 0), false)
      else ((image_Put n_ a_2.1)).bind fun r_4 =>
        ((slices_Equal_string n_ r_4 l)).bind fun r_5 =>
        bif (!r_5) then k0 ((TState.mk [] [] 0), false)
        else k0 (a_2.1, true)) (fun b_6 =>
      alt b_6 (fun a_7 =>
        k0 ((TState.mk [] [] 0), false)) (fun b_8 =>
        k0 ((TState.mk [] [] 0), false))))
  else none
def image_Take (l : List (List UInt8)) : Option (TState × Bool) := image_Take_k n_ (fun x => some x) l
theorem image_Take_bind {α : Type} (k0 : (TState × Bool) → Option α) (l : List (List UInt8)) : image_Take_k n_ k0 l = (image_Take n_ l).bind k0 := by
  unfold image_Take image_Take_k; simp only [bind_cond, Option.bind_assoc, alt_bind, Option.bind_some, Option.bind_none, alt_inl, alt_inr]
@[reducible] def store_Open_k {α : Type} (k0 : (TStore × Bool) → Option α) (d : TDisk) : Option α :=
  ((store_size n_)).bind fun r_1 =>
  bif ((d.Last.length : Int) != r_1) then k0 ((TStore.mk (TDisk.mk [] [] 0 false) (TState.mk [] [] 0)), false)
  else bif d.Down then k0 ((TStore.mk (TDisk.mk [] [] 0 false) (TState.mk [] [] 0)), false)
    else ((store_home n_)).bind fun r_2 =>
      ((jrnl_Mend n_ d r_2)).bind fun r_3 =>
      ((store_sectors n_ r_3.1)).bind fun r_4 =>
      alt r_4 (fun a_5 =>
        ((image_Take n_ a_5)).bind fun r_6 =>
        bif (!r_6.2) then k0 ((TStore.mk (TDisk.mk [] [] 0 false) (TState.mk [] [] 0)), false)
        else k0 ((TStore.mk r_3.1 r_6.1), true)) (fun b_7 =>
        k0 ((TStore.mk (TDisk.mk [] [] 0 false) (TState.mk [] [] 0)), false))
def store_Open (d : TDisk) : Option (TStore × Bool) := store_Open_k n_ (fun x => some x) d
theorem store_Open_bind {α : Type} (k0 : (TStore × Bool) → Option α) (d : TDisk) : store_Open_k n_ k0 d = (store_Open n_ d).bind k0 := by
  unfold store_Open store_Open_k; simp only [bind_cond, Option.bind_assoc, alt_bind, Option.bind_some, Option.bind_none, alt_inl, alt_inr]
@[reducible] def ref7_SameMarks_s0k {α : Type} (a : List TMark) (b : List TMark) (kc : Int → Option α) (k0 : Unit → Option α) (k1 : Unit → Option α) (i : Int) : Option α :=
  bif (decide (i < (a.length : Int))) then (bif (inR i a.length) then (((a[i.toNat]?)).bind fun y_1 =>
      bif (inR i b.length) then (((b[i.toNat]?)).bind fun y_2 =>
        bif (!(TMark.eqb y_1 y_2)) then k0 ()
        else kc (wi64 (i + 1)))
      else none)
    else none)
  else k1 ()
def ref7_SameMarks_s0 (a : List TMark) (b : List TMark) (v_ : Int) : Option (Int ⊕ (Unit ⊕ Unit)) := ref7_SameMarks_s0k a b (fun x => some (.inl x)) (fun x => some (.inr (.inl x))) (fun x => some (.inr (.inr x))) v_
def ref7_SameMarks_l0 (a : List TMark) (b : List TMark) (i : Int) : Option (Unit ⊕ Unit) := iter (ref7_SameMarks_s0 a b) n_ i
theorem ref7_SameMarks_s0_bind {α : Type} (a : List TMark) (b : List TMark) (kc : Int → Option α) (k0 : Unit → Option α) (k1 : Unit → Option α) (i : Int) : ref7_SameMarks_s0k a b kc k0 k1 i = (ref7_SameMarks_s0 a b i).bind fun s_ => alt s_ kc (fun s0_ => alt s0_ k0 k1) := by
  unfold ref7_SameMarks_s0 ref7_SameMarks_s0k; simp only [bind_cond, Option.bind_assoc, alt_bind, Option.bind_some, Option.bind_none, alt_inl, alt_inr]
@[reducible] def ref7_SameMarks_k {α : Type} (k0 : Bool → Option α) (a : List TMark) (b : List TMark) : Option α :=
  bif ((a.length : Int) != (b.length : Int)) then k0 false
  else ((ref7_SameMarks_l0 n_ a b 0)).bind fun r_1 =>
    alt r_1 (fun a_2 =>
      k0 false) (fun b_3 =>
      k0 true)
def ref7_SameMarks (a : List TMark) (b : List TMark) : Option Bool := ref7_SameMarks_k n_ (fun x => some x) a b
theorem ref7_SameMarks_bind {α : Type} (k0 : Bool → Option α) (a : List TMark) (b : List TMark) : ref7_SameMarks_k n_ k0 a b = (ref7_SameMarks n_ a b).bind k0 := by
  unfold ref7_SameMarks ref7_SameMarks_k; simp only [bind_cond, Option.bind_assoc, alt_bind, Option.bind_some, Option.bind_none, alt_inl, alt_inr]
@[reducible] def ref7_SameState_s0k {α : Type} (a : TState) (b : TState) (kc : Int → Option α) (k0 : Unit → Option α) (k1 : Unit → Option α) (i : Int) : Option α :=
  bif (decide (i < (a.Files.length : Int))) then (bif (inR i a.Files.length) then (((a.Files[i.toNat]?)).bind fun y_1 =>
      bif (inR i b.Files.length) then (((b.Files[i.toNat]?)).bind fun y_2 =>
        bif (!(TFile.eqb y_1 y_2)) then k0 ()
        else kc (wi64 (i + 1)))
      else none)
    else none)
  else k1 ()
def ref7_SameState_s0 (a : TState) (b : TState) (v_ : Int) : Option (Int ⊕ (Unit ⊕ Unit)) := ref7_SameState_s0k a b (fun x => some (.inl x)) (fun x => some (.inr (.inl x))) (fun x => some (.inr (.inr x))) v_
def ref7_SameState_l0 (a : TState) (b : TState) (i : Int) : Option (Unit ⊕ Unit) := iter (ref7_SameState_s0 a b) n_ i
theorem ref7_SameState_s0_bind {α : Type} (a : TState) (b : TState) (kc : Int → Option α) (k0 : Unit → Option α) (k1 : Unit → Option α) (i : Int) : ref7_SameState_s0k a b kc k0 k1 i = (ref7_SameState_s0 a b i).bind fun s_ => alt s_ kc (fun s0_ => alt s0_ k0 k1) := by
  unfold ref7_SameState_s0 ref7_SameState_s0k; simp only [bind_cond, Option.bind_assoc, alt_bind, Option.bind_some, Option.bind_none, alt_inl, alt_inr]
@[reducible] def ref7_SameState_k {α : Type} (k0 : Bool → Option α) (a : TState) (b : TState) : Option α :=
  bif ((a.Files.length : Int) != (b.Files.length : Int)) then k0 false
  else ((ref7_SameMarks n_ a.Marks b.Marks)).bind fun r_1 =>
    bif (!r_1) then k0 false
    else bif (a.Epoch != b.Epoch) then k0 false
      else ((ref7_SameState_l0 n_ a b 0)).bind fun r_2 =>
        alt r_2 (fun a_3 =>
          k0 false) (fun b_4 =>
          k0 true)
def ref7_SameState (a : TState) (b : TState) : Option Bool := ref7_SameState_k n_ (fun x => some x) a b
theorem ref7_SameState_bind {α : Type} (k0 : Bool → Option α) (a : TState) (b : TState) : ref7_SameState_k n_ k0 a b = (ref7_SameState n_ a b).bind k0 := by
  unfold ref7_SameState ref7_SameState_k; simp only [bind_cond, Option.bind_assoc, alt_bind, Option.bind_some, Option.bind_none, alt_inl, alt_inr]
@[reducible] def law12_begun_k {α : Type} (k0 : Bool → Option α) : Option α :=
  ((store_Make n_)).bind fun r_1 =>
  ((ref7_Open n_ r_1.S 1 1 [97])).bind fun r_2 =>
  ((store_Commit n_ r_1 r_2.1)).bind fun r_3 =>
  ((store_Open n_ r_3.1.D)).bind fun r_4 =>
  ((store_Open n_ (TDisk.mk [] [] 0 false))).bind fun r_5 =>
  bif ((r_1.D.Last.length : Int) == 19) then (bif r_3.2 then (bif r_4.2 then (((ref7_SameState n_ r_4.1.S r_2.1)).bind fun r_6 =>
        bif r_6 then k0 (!r_5.2)
        else k0 false)
      else k0 false)
    else k0 false)
  else k0 false
def law12_begun : Option Bool := law12_begun_k n_ (fun x => some x)
theorem law12_begun_bind {α : Type} (k0 : Bool → Option α) : law12_begun_k n_ k0 = (law12_begun n_).bind k0 := by
  unfold law12_begun law12_begun_k; simp only [bind_cond, Option.bind_assoc, alt_bind, Option.bind_some, Option.bind_none, alt_inl, alt_inr]
@[reducible] def made_Made_k {α : Type} (k : Ttenancymade_Picks → α) (l : List UInt8) : α :=
  k (Ttenancymade_Picks.mk l 0)
def made_Made (l : List UInt8) : Ttenancymade_Picks := made_Made_k id l
theorem made_Made_bind {α : Type} (k : Ttenancymade_Picks → α) (l : List UInt8) : made_Made_k k l = k (made_Made l) := by
  unfold made_Made made_Made_k; simp only [Bool.apply_cond k, id]
@[reducible] def ref7_NewState_k {α : Type} (k : Unit → α) : α :=
  k ()
def ref7_NewState : Unit := ref7_NewState_k id
theorem ref7_NewState_bind {α : Type} (k : Unit → α) : ref7_NewState_k k = k (ref7_NewState) := by
  unfold ref7_NewState ref7_NewState_k; simp only [Bool.apply_cond k, id]
@[reducible] def made_Picks_Over_k {α : Type} (k : Bool → α) (p : Ttenancymade_Picks) : α :=
  k (decide (p.n ≥ (p.l.length : Int)))
def made_Picks_Over (p : Ttenancymade_Picks) : Bool := made_Picks_Over_k id p
theorem made_Picks_Over_bind {α : Type} (k : Bool → α) (p : Ttenancymade_Picks) : made_Picks_Over_k k p = k (made_Picks_Over p) := by
  unfold made_Picks_Over made_Picks_Over_k; simp only [Bool.apply_cond k, id]
@[reducible] def made_Picks_Num_k {α : Type} (k0 : (Int × Ttenancymade_Picks) → Option α) (m : Int) (p : Ttenancymade_Picks) : Option α :=
  bif (decide (p.n ≥ (p.l.length : Int))) then k0 (0, p)
  else bif (decide (m < 1)) then k0 (0, p)
    else bif (inR (wi64 ((wi64 (p.n + 1)) - 1)) p.l.length) then (((p.l[(wi64 ((wi64 (p.n + 1)) - 1)).toNat]?)).bind fun y_1 =>
        bif (m == 0) then none
        else k0 (((wi64 (i8 y_1)).tmod m), (Ttenancymade_Picks.mk p.l (wi64 (p.n + 1)))))
      else none
def made_Picks_Num (m : Int) (p : Ttenancymade_Picks) : Option (Int × Ttenancymade_Picks) := made_Picks_Num_k (fun x => some x) m p
theorem made_Picks_Num_bind {α : Type} (k0 : (Int × Ttenancymade_Picks) → Option α) (m : Int) (p : Ttenancymade_Picks) : made_Picks_Num_k k0 m p = (made_Picks_Num m p).bind k0 := by
  unfold made_Picks_Num made_Picks_Num_k; simp only [bind_cond, Option.bind_assoc, alt_bind, Option.bind_some, Option.bind_none, alt_inl, alt_inr]
@[reducible] def made_Picks_Name_k {α : Type} (k0 : (List UInt8 × Ttenancymade_Picks) → Option α) (p : Ttenancymade_Picks) : Option α :=
  ((made_Picks_Num 10 p)).bind fun r_1 =>
  bif (inR r_1.1 10) then ((([[97], [98], [99], [110, 111, 116, 101, 115], [108, 111, 103], [120, 47, 121], [115, 101, 118, 101, 110, 55, 55], [], [97, 32, 98], [110, 105, 110, 101, 99, 104, 97, 114, 115]][r_1.1.toNat]?)).bind fun y_2 =>
    k0 (y_2, r_1.2))
  else none
def made_Picks_Name (p : Ttenancymade_Picks) : Option (List UInt8 × Ttenancymade_Picks) := made_Picks_Name_k (fun x => some x) p
theorem made_Picks_Name_bind {α : Type} (k0 : (List UInt8 × Ttenancymade_Picks) → Option α) (p : Ttenancymade_Picks) : made_Picks_Name_k k0 p = (made_Picks_Name p).bind k0 := by
  unfold made_Picks_Name made_Picks_Name_k; simp only [bind_cond, Option.bind_assoc, alt_bind, Option.bind_some, Option.bind_none, alt_inl, alt_inr]
@[reducible] def ref7_Boot_k {α : Type} (k : TState → α) (s : TState) : α :=
  k (TState.mk s.Files s.Marks (imin (wi64 (s.Epoch + 1)) 1073741824))
def ref7_Boot (s : TState) : TState := ref7_Boot_k id s
theorem ref7_Boot_bind {α : Type} (k : TState → α) (s : TState) : ref7_Boot_k k s = k (ref7_Boot s) := by
  unfold ref7_Boot ref7_Boot_k; simp only [Bool.apply_cond k, id]
@[reducible] def made_Picks_Write_k {α : Type} (k0 : (TWrite × Ttenancymade_Picks) → Option α) (p : Ttenancymade_Picks) : Option α :=
  ((made_Picks_Num 10 p)).bind fun r_1 =>
  ((made_Picks_Num 6 r_1.2)).bind fun r_2 =>
  bif (inR r_2.1 6) then ((([[120], [121, 122], [104, 101, 108, 108, 111], [48], [97, 98, 0, 99, 100], [102, 111, 117, 114, 116, 101, 101, 110, 32, 98, 121, 116, 101, 115]][r_2.1.toNat]?)).bind fun y_3 =>
    k0 ((TWrite.mk r_1.1 y_3), r_2.2))
  else none
def made_Picks_Write (p : Ttenancymade_Picks) : Option (TWrite × Ttenancymade_Picks) := made_Picks_Write_k (fun x => some x) p
theorem made_Picks_Write_bind {α : Type} (k0 : (TWrite × Ttenancymade_Picks) → Option α) (p : Ttenancymade_Picks) : made_Picks_Write_k k0 p = (made_Picks_Write p).bind k0 := by
  unfold made_Picks_Write made_Picks_Write_k; simp only [bind_cond, Option.bind_assoc, alt_bind, Option.bind_some, Option.bind_none, alt_inl, alt_inr]
@[reducible] def made_Picks_Writes_s0k {α : Type} (kc : (Int × Ttenancymade_Picks × List TWrite) → Option α) (k0 : (Ttenancymade_Picks × List TWrite) → Option α) (i : Int) (p : Ttenancymade_Picks) (l : List TWrite) : Option α :=
  bif (decide (i > 0)) then (((made_Picks_Write p)).bind fun r_1 =>
    bif (decide ((l.length + 1) ≤ lim)) then kc ((wi64 (i - 1)), r_1.2, (l ++ [r_1.1]))
    else none)
  else k0 (p, l)
def made_Picks_Writes_s0 (v_ : Int × Ttenancymade_Picks × List TWrite) : Option ((Int × Ttenancymade_Picks × List TWrite) ⊕ (Ttenancymade_Picks × List TWrite)) := made_Picks_Writes_s0k (fun x => some (.inl x)) (fun x => some (.inr x)) v_.1 v_.2.1 v_.2.2
def made_Picks_Writes_l0 (i : Int) (p : Ttenancymade_Picks) (l : List TWrite) : Option (Ttenancymade_Picks × List TWrite) := iter (made_Picks_Writes_s0) n_ (i, p, l)
theorem made_Picks_Writes_s0_bind {α : Type} (kc : (Int × Ttenancymade_Picks × List TWrite) → Option α) (k0 : (Ttenancymade_Picks × List TWrite) → Option α) (i : Int) (p : Ttenancymade_Picks) (l : List TWrite) : made_Picks_Writes_s0k kc k0 i p l = (made_Picks_Writes_s0 (i, p, l)).bind fun s_ => alt s_ kc k0 := by
  unfold made_Picks_Writes_s0 made_Picks_Writes_s0k; simp only [bind_cond, Option.bind_assoc, alt_bind, Option.bind_some, Option.bind_none, alt_inl, alt_inr]
@[reducible] def made_Picks_Writes_k {α : Type} (k0 : (Ttenancymade_Picks × List TWrite) → Option α) (most : Int) (p : Ttenancymade_Picks) : Option α :=
  ((made_Picks_Num (wi64 (most + 1)) p)).bind fun r_1 =>
  ((made_Picks_Writes_l0 n_ r_1.1 r_1.2 [])).bind fun r_2 =>
  k0 (r_2.1, r_2.2)
def made_Picks_Writes (most : Int) (p : Ttenancymade_Picks) : Option (Ttenancymade_Picks × List TWrite) := made_Picks_Writes_k n_ (fun x => some x) most p
theorem made_Picks_Writes_bind {α : Type} (k0 : (Ttenancymade_Picks × List TWrite) → Option α) (most : Int) (p : Ttenancymade_Picks) : made_Picks_Writes_k n_ k0 most p = (made_Picks_Writes n_ most p).bind k0 := by
  unfold made_Picks_Writes made_Picks_Writes_k; simp only [bind_cond, Option.bind_assoc, alt_bind, Option.bind_some, Option.bind_none, alt_inl, alt_inr]
@[reducible] def ref7_Is_k {α : Type} (k0 : Bool → Option α) (s : TState) (file : Int) : Option α :=
  bif (decide (file ≥ 1)) then (bif (decide (file ≤ (s.Files.length : Int))) then (bif (inR (wi64 (file - 1)) s.Files.length) then (((s.Files[(wi64 (file - 1)).toNat]?)).bind fun y_1 =>
        k0 (!(y_1.Name == [])))
      else none)
    else k0 false)
  else k0 false
def ref7_Is (s : TState) (file : Int) : Option Bool := ref7_Is_k (fun x => some x) s file
theorem ref7_Is_bind {α : Type} (k0 : Bool → Option α) (s : TState) (file : Int) : ref7_Is_k k0 s file = (ref7_Is s file).bind k0 := by
  unfold ref7_Is ref7_Is_k; simp only [bind_cond, Option.bind_assoc, alt_bind, Option.bind_some, Option.bind_none, alt_inl, alt_inr]
@[reducible] def ref7_MayWrite_k {α : Type} (k : Bool → α) (w : TWrite) : α :=
  bif (decide (w.Off ≥ 0)) then (bif (decide (w.Off < 24)) then (bif (decide ((w.B.length : Int) ≥ 1)) then k (decide ((w.B.length : Int) ≤ (wi64 (24 - w.Off))))
      else k false)
    else k false)
  else k false
def ref7_MayWrite (w : TWrite) : Bool := ref7_MayWrite_k id w
theorem ref7_MayWrite_bind {α : Type} (k : Bool → α) (w : TWrite) : ref7_MayWrite_k k w = k (ref7_MayWrite w) := by
  unfold ref7_MayWrite ref7_MayWrite_k; simp only [Bool.apply_cond k, id]
@[reducible] def ref7_PutWrite_s0k {α : Type} (i : Int) (w : TWrite) (kc : (List UInt8) → Option α) (k0 : (List UInt8) → Option α) (b : List UInt8) : Option α :=
  bif (decide ((b.length : Int) ≤ (wi64 (w.Off + i)))) then (bif (decide ((b.length + 1) ≤ lim)) then kc (b ++ [0])
    else none)
  else k0 b
def ref7_PutWrite_s0 (i : Int) (w : TWrite) (v_ : List UInt8) : Option ((List UInt8) ⊕ (List UInt8)) := ref7_PutWrite_s0k i w (fun x => some (.inl x)) (fun x => some (.inr x)) v_
def ref7_PutWrite_l0 (i : Int) (w : TWrite) (b : List UInt8) : Option (List UInt8) := iter (ref7_PutWrite_s0 i w) n_ b
theorem ref7_PutWrite_s0_bind {α : Type} (i : Int) (w : TWrite) (kc : (List UInt8) → Option α) (k0 : (List UInt8) → Option α) (b : List UInt8) : ref7_PutWrite_s0k i w kc k0 b = (ref7_PutWrite_s0 i w b).bind fun s_ => alt s_ kc k0 := by
  unfold ref7_PutWrite_s0 ref7_PutWrite_s0k; simp only [bind_cond, Option.bind_assoc, alt_bind, Option.bind_some, Option.bind_none, alt_inl, alt_inr]
@[reducible] def ref7_PutWrite_s1k {α : Type} (w : TWrite) (kc : (Int × List UInt8) → Option α) (k0 : (List UInt8) → Option α) (i : Int) (b : List UInt8) : Option α :=
  bif (decide (i < (w.B.length : Int))) then (((ref7_PutWrite_l0 n_ i w b)).bind fun r_1 =>
    bif (inR i w.B.length) then (((w.B[i.toNat]?)).bind fun y_2 =>
      bif (inR (wi64 (w.Off + i)) r_1.length) then (((r_1[(wi64 (w.Off + i)).toNat]?)).bind fun y_3 =>
        kc ((wi64 (i + 1)), (r_1.set (wi64 (w.Off + i)).toNat y_2)))
      else none)
    else none)
  else k0 b
def ref7_PutWrite_s1 (w : TWrite) (v_ : Int × List UInt8) : Option ((Int × List UInt8) ⊕ (List UInt8)) := ref7_PutWrite_s1k n_ w (fun x => some (.inl x)) (fun x => some (.inr x)) v_.1 v_.2
def ref7_PutWrite_l1 (w : TWrite) (i : Int) (b : List UInt8) : Option (List UInt8) := iter (ref7_PutWrite_s1 n_ w) n_ (i, b)
theorem ref7_PutWrite_s1_bind {α : Type} (w : TWrite) (kc : (Int × List UInt8) → Option α) (k0 : (List UInt8) → Option α) (i : Int) (b : List UInt8) : ref7_PutWrite_s1k n_ w kc k0 i b = (ref7_PutWrite_s1 n_ w (i, b)).bind fun s_ => alt s_ kc k0 := by
  unfold ref7_PutWrite_s1 ref7_PutWrite_s1k; simp only [bind_cond, Option.bind_assoc, alt_bind, Option.bind_some, Option.bind_none, alt_inl, alt_inr]
@[reducible] def ref7_PutWrite_k {α : Type} (k0 : (List UInt8) → Option α) (body : List UInt8) (w : TWrite) : Option α :=
  bif (!(ref7_MayWrite w)) then k0 body
  else ((ref7_PutWrite_l1 n_ w 0 body)).bind fun r_1 =>
    k0 r_1
def ref7_PutWrite (body : List UInt8) (w : TWrite) : Option (List UInt8) := ref7_PutWrite_k n_ (fun x => some x) body w
theorem ref7_PutWrite_bind {α : Type} (k0 : (List UInt8) → Option α) (body : List UInt8) (w : TWrite) : ref7_PutWrite_k n_ k0 body w = (ref7_PutWrite n_ body w).bind k0 := by
  unfold ref7_PutWrite ref7_PutWrite_k; simp only [bind_cond, Option.bind_assoc, alt_bind, Option.bind_some, Option.bind_none, alt_inl, alt_inr]
@[reducible] def ref7_All_s0k {α : Type} (l : List TWrite) (kc : (List UInt8 × Int) → Option α) (k0 : (List UInt8) → Option α) (body : List UInt8) (i : Int) : Option α :=
  bif (decide (i < (l.length : Int))) then (bif (inR i l.length) then (((l[i.toNat]?)).bind fun y_1 =>
      ((ref7_PutWrite n_ body y_1)).bind fun r_2 =>
      kc (r_2, (wi64 (i + 1))))
    else none)
  else k0 body
def ref7_All_s0 (l : List TWrite) (v_ : List UInt8 × Int) : Option ((List UInt8 × Int) ⊕ (List UInt8)) := ref7_All_s0k n_ l (fun x => some (.inl x)) (fun x => some (.inr x)) v_.1 v_.2
def ref7_All_l0 (l : List TWrite) (body : List UInt8) (i : Int) : Option (List UInt8) := iter (ref7_All_s0 n_ l) n_ (body, i)
theorem ref7_All_s0_bind {α : Type} (l : List TWrite) (kc : (List UInt8 × Int) → Option α) (k0 : (List UInt8) → Option α) (body : List UInt8) (i : Int) : ref7_All_s0k n_ l kc k0 body i = (ref7_All_s0 n_ l (body, i)).bind fun s_ => alt s_ kc k0 := by
  unfold ref7_All_s0 ref7_All_s0k; simp only [bind_cond, Option.bind_assoc, alt_bind, Option.bind_some, Option.bind_none, alt_inl, alt_inr]
@[reducible] def ref7_All_k {α : Type} (k0 : (List UInt8) → Option α) (body : List UInt8) (l : List TWrite) : Option α :=
  ((ref7_All_l0 n_ l body 0)).bind fun r_1 =>
  k0 r_1
def ref7_All (body : List UInt8) (l : List TWrite) : Option (List UInt8) := ref7_All_k n_ (fun x => some x) body l
theorem ref7_All_bind {α : Type} (k0 : (List UInt8) → Option α) (body : List UInt8) (l : List TWrite) : ref7_All_k n_ k0 body l = (ref7_All n_ body l).bind k0 := by
  unfold ref7_All ref7_All_k; simp only [bind_cond, Option.bind_assoc, alt_bind, Option.bind_some, Option.bind_none, alt_inl, alt_inr]
@[reducible] def ref7_Flush_s0k {α : Type} (client : Int) (file : Int) (l : List TWrite) (s : TState) (o2 : TMark) (m : TMark) (kc : (Bool × Int × TState) → Option α) (k0 : (Bool × TState) → Option α) (ok : Bool) (i : Int) (o1 : TState) : Option α :=
  bif (decide (i < (l.length : Int))) then (bif ok then (bif (inR i l.length) then (((l[i.toNat]?)).bind fun y_1 =>
        kc ((ref7_MayWrite y_1), (wi64 (i + 1)), (TState.mk [] [] o1.Epoch)))
      else none)
    else kc (false, (wi64 (i + 1)), (TState.mk [] [] o1.Epoch)))
  else k0 (ok, (TState.mk [] [] o1.Epoch))
def ref7_Flush_s0 (client : Int) (file : Int) (l : List TWrite) (s : TState) (o2 : TMark) (m : TMark) (v_ : Bool × Int × TState) : Option ((Bool × Int × TState) ⊕ (Bool × TState)) := ref7_Flush_s0k client file l s o2 m (fun x => some (.inl x)) (fun x => some (.inr x)) v_.1 v_.2.1 v_.2.2
def ref7_Flush_l0 (client : Int) (file : Int) (l : List TWrite) (s : TState) (o2 : TMark) (m : TMark) (ok : Bool) (i : Int) (o1 : TState) : Option (Bool × TState) := iter (ref7_Flush_s0 client file l s o2 m) n_ (ok, i, o1)
theorem ref7_Flush_s0_bind {α : Type} (client : Int) (file : Int) (l : List TWrite) (s : TState) (o2 : TMark) (m : TMark) (kc : (Bool × Int × TState) → Option α) (k0 : (Bool × TState) → Option α) (ok : Bool) (i : Int) (o1 : TState) : ref7_Flush_s0k client file l s o2 m kc k0 ok i o1 = (ref7_Flush_s0 client file l s o2 m (ok, i, o1)).bind fun s_ => alt s_ kc k0 := by
  unfold ref7_Flush_s0 ref7_Flush_s0k; simp only [bind_cond, Option.bind_assoc, alt_bind, Option.bind_some, Option.bind_none, alt_inl, alt_inr]
@[reducible] def ref7_Flush_k {α : Type} (k0 : (TState × TMark) → Option α) (s : TState) (client : Int) (seq : Int) (file : Int) (l : List TWrite) : Option α :=
  ((ref7_Is s file)).bind fun r_1 =>
  bif (!r_1) then (((ref7_marked s client (TMark.mk seq 2 0 0) 0 (TFile.mk [] 0 []))).bind fun r_2 =>
    k0 (r_2, (TMark.mk seq 2 0 0)))
  else bif (decide ((l.length : Int) ≥ 1)) then (((ref7_Flush_l0 n_ client file l s (TMark.mk 0 0 0 0) (TMark.mk seq 0 0 0) (decide ((l.length : Int) ≤ 5)) 0 (TState.mk [] [] 0))).bind fun r_3 =>
      bif (!r_3.1) then (((ref7_marked s client (TMark.mk seq 1 0 0) 0 (TFile.mk [] 0 []))).bind fun r_4 =>
        k0 (r_4, (TMark.mk seq 1 0 0)))
      else bif (inR (wi64 (file - 1)) s.Files.length) then (((s.Files[(wi64 (file - 1)).toNat]?)).bind fun y_5 =>
          ((ref7_All n_ y_5.Body l)).bind fun r_6 =>
          ((ref7_marked s client (TMark.mk seq 0 file (imin (wi64 (y_5.Ver + 1)) 1073741824)) file (TFile.mk y_5.Name (imin (wi64 (y_5.Ver + 1)) 1073741824) r_6))).bind fun r_7 =>
          k0 (r_7, (TMark.mk seq 0 file (imin (wi64 (y_5.Ver + 1)) 1073741824))))
        else none)
    else ((ref7_Flush_l0 n_ client file l s (TMark.mk 0 0 0 0) (TMark.mk seq 0 0 0) false 0 (TState.mk [] [] 0))).bind fun r_8 =>
      bif (!r_8.1) then (((ref7_marked s client (TMark.mk seq 1 0 0) 0 (TFile.mk [] 0 []))).bind fun r_9 =>
        k0 (r_9, (TMark.mk seq 1 0 0)))
      else bif (inR (wi64 (file - 1)) s.Files.length) then (((s.Files[(wi64 (file - 1)).toNat]?)).bind fun y_10 =>
          ((ref7_All n_ y_10.Body l)).bind fun r_11 =>
          ((ref7_marked s client (TMark.mk seq 0 file (imin (wi64 (y_10.Ver + 1)) 1073741824)) file (TFile.mk y_10.Name (imin (wi64 (y_10.Ver + 1)) 1073741824) r_11))).bind fun r_12 =>
          k0 (r_12, (TMark.mk seq 0 file (imin (wi64 (y_10.Ver + 1)) 1073741824))))
        else none
def ref7_Flush (s : TState) (client : Int) (seq : Int) (file : Int) (l : List TWrite) : Option (TState × TMark) := ref7_Flush_k n_ (fun x => some x) s client seq file l
theorem ref7_Flush_bind {α : Type} (k0 : (TState × TMark) → Option α) (s : TState) (client : Int) (seq : Int) (file : Int) (l : List TWrite) : ref7_Flush_k n_ k0 s client seq file l = (ref7_Flush n_ s client seq file l).bind k0 := by
  unfold ref7_Flush ref7_Flush_k; simp only [bind_cond, Option.bind_assoc, alt_bind, Option.bind_some, Option.bind_none, alt_inl, alt_inr]
@[reducible] def ref7_Gone_k {α : Type} (k0 : (TState × TMark) → Option α) (s : TState) (client : Int) (seq : Int) (file : Int) : Option α :=
  ((ref7_Is s file)).bind fun r_1 =>
  bif (!r_1) then (((ref7_marked s client (TMark.mk seq 2 0 0) 0 (TFile.mk [] 0 []))).bind fun r_2 =>
    k0 (r_2, (TMark.mk seq 2 0 0)))
  else ((ref7_marked s client (TMark.mk seq 0 file 0) file (TFile.mk [] 0 []))).bind fun r_3 =>
    k0 (r_3, (TMark.mk seq 0 file 0))
def ref7_Gone (s : TState) (client : Int) (seq : Int) (file : Int) : Option (TState × TMark) := ref7_Gone_k (fun x => some x) s client seq file
theorem ref7_Gone_bind {α : Type} (k0 : (TState × TMark) → Option α) (s : TState) (client : Int) (seq : Int) (file : Int) : ref7_Gone_k k0 s client seq file = (ref7_Gone s client seq file).bind k0 := by
  unfold ref7_Gone ref7_Gone_k; simp only [bind_cond, Option.bind_assoc, alt_bind, Option.bind_some, Option.bind_none, alt_inl, alt_inr]
@[reducible] def made_Picks_State_s0k {α : Type} (most : Int) (kc : (Int × Ttenancymade_Picks × TState × TState) → Option α) (k0 : (Ttenancymade_Picks × TState × TState) → Option α) (i : Int) (p : Ttenancymade_Picks) (o1 : TState) (s : TState) : Option α :=
  bif (decide (i < most)) then (bif (!(made_Picks_Over p)) then (((made_Picks_Num 3 p)).bind fun r_1 =>
      bif (inR (wi64 ((wi64 (1 + r_1.1)) - 1)) s.Marks.length) then (((s.Marks[(wi64 ((wi64 (1 + r_1.1)) - 1)).toNat]?)).bind fun y_2 =>
        ((made_Picks_Num 3 r_1.2)).bind fun r_3 =>
        ((made_Picks_Num 6 r_3.2)).bind fun r_4 =>
        bif (r_4.1 == 0) then (((made_Picks_Name r_4.2)).bind fun r_5 =>
          ((ref7_Open n_ s (wi64 (1 + r_1.1)) (imax (wi64 (y_2.Seq + r_3.1)) 1) r_5.1)).bind fun r_6 =>
          ((made_Picks_Num 9 r_5.2)).bind fun r_7 =>
          bif (r_7.1 == 0) then kc ((wi64 (i + 1)), r_7.2, (TState.mk [] [] o1.Epoch), (ref7_Boot r_6.1))
          else kc ((wi64 (i + 1)), r_7.2, (TState.mk [] [] o1.Epoch), r_6.1))
        else bif (r_4.1 == 1) then (((made_Picks_Name r_4.2)).bind fun r_8 =>
            ((ref7_Open n_ s (wi64 (1 + r_1.1)) (imax (wi64 (y_2.Seq + r_3.1)) 1) r_8.1)).bind fun r_9 =>
            ((made_Picks_Num 9 r_8.2)).bind fun r_10 =>
            bif (r_10.1 == 0) then kc ((wi64 (i + 1)), r_10.2, (TState.mk [] [] o1.Epoch), (ref7_Boot r_9.1))
            else kc ((wi64 (i + 1)), r_10.2, (TState.mk [] [] o1.Epoch), r_9.1))
          else bif (r_4.1 == 2) then (((made_Picks_Name r_4.2)).bind fun r_11 =>
              ((ref7_Open n_ s (wi64 (1 + r_1.1)) (imax (wi64 (y_2.Seq + r_3.1)) 1) r_11.1)).bind fun r_12 =>
              ((made_Picks_Num 9 r_11.2)).bind fun r_13 =>
              bif (r_13.1 == 0) then kc ((wi64 (i + 1)), r_13.2, (TState.mk [] [] o1.Epoch), (ref7_Boot r_12.1))
              else kc ((wi64 (i + 1)), r_13.2, (TState.mk [] [] o1.Epoch), r_12.1))
            else bif (r_4.1 == 3) then (((made_Picks_Num 7 r_4.2)).bind fun r_14 =>
                ((made_Picks_Writes n_ 5 r_14.2)).bind fun r_15 =>
                ((ref7_Flush n_ s (wi64 (1 + r_1.1)) (imax (wi64 (y_2.Seq + r_3.1)) 1) (wi64 (1 + r_14.1)) r_15.2)).bind fun r_16 =>
                ((made_Picks_Num 9 r_15.1)).bind fun r_17 =>
                bif (r_17.1 == 0) then kc ((wi64 (i + 1)), r_17.2, (TState.mk [] [] o1.Epoch), (ref7_Boot r_16.1))
                else kc ((wi64 (i + 1)), r_17.2, (TState.mk [] [] o1.Epoch), r_16.1))
              else bif (r_4.1 == 4) then (((made_Picks_Num 7 r_4.2)).bind fun r_18 =>
                  ((made_Picks_Writes n_ 5 r_18.2)).bind fun r_19 =>
                  ((ref7_Flush n_ s (wi64 (1 + r_1.1)) (imax (wi64 (y_2.Seq + r_3.1)) 1) (wi64 (1 + r_18.1)) r_19.2)).bind fun r_20 =>
                  ((made_Picks_Num 9 r_19.1)).bind fun r_21 =>
                  bif (r_21.1 == 0) then kc ((wi64 (i + 1)), r_21.2, (TState.mk [] [] o1.Epoch), (ref7_Boot r_20.1))
                  else kc ((wi64 (i + 1)), r_21.2, (TState.mk [] [] o1.Epoch), r_20.1))
                else ((made_Picks_Num 7 r_4.2)).bind fun r_22 =>
                  ((ref7_Gone s (wi64 (1 + r_1.1)) (imax (wi64 (y_2.Seq + r_3.1)) 1) (wi64 (1 + r_22.1)))).bind fun r_23 =>
                  ((made_Picks_Num 9 r_22.2)).bind fun r_24 =>
                  bif (r_24.1 == 0) then kc ((wi64 (i + 1)), r_24.2, (TState.mk [] [] o1.Epoch), (ref7_Boot r_23.1))
                  else kc ((wi64 (i + 1)), r_24.2, (TState.mk [] [] o1.Epoch), r_23.1))
      else none)
    else k0 (p, (TState.mk [] [] o1.Epoch), s))
  else k0 (p, (TState.mk [] [] o1.Epoch), s)
def made_Picks_State_s0 (most : Int) (v_ : Int × Ttenancymade_Picks × TState × TState) : Option ((Int × Ttenancymade_Picks × TState × TState) ⊕ (Ttenancymade_Picks × TState × TState)) := made_Picks_State_s0k n_ most (fun x => some (.inl x)) (fun x => some (.inr x)) v_.1 v_.2.1 v_.2.2.1 v_.2.2.2
def made_Picks_State_l0 (most : Int) (i : Int) (p : Ttenancymade_Picks) (o1 : TState) (s : TState) : Option (Ttenancymade_Picks × TState × TState) := iter (made_Picks_State_s0 n_ most) n_ (i, p, o1, s)
theorem made_Picks_State_s0_bind {α : Type} (most : Int) (kc : (Int × Ttenancymade_Picks × TState × TState) → Option α) (k0 : (Ttenancymade_Picks × TState × TState) → Option α) (i : Int) (p : Ttenancymade_Picks) (o1 : TState) (s : TState) : made_Picks_State_s0k n_ most kc k0 i p o1 s = (made_Picks_State_s0 n_ most (i, p, o1, s)).bind fun s_ => alt s_ kc k0 := by
  unfold made_Picks_State_s0 made_Picks_State_s0k; simp only [bind_cond, Option.bind_assoc, alt_bind, Option.bind_some, Option.bind_none, alt_inl, alt_inr]
@[reducible] def made_Picks_State_k {α : Type} (k0 : (TState × Ttenancymade_Picks) → Option α) (most : Int) (p : Ttenancymade_Picks) : Option α :=
  ((made_Picks_State_l0 n_ most 0 p (TState.mk [] [] 0) (TState.mk [(TFile.mk [] 0 []), (TFile.mk [] 0 []), (TFile.mk [] 0 []), (TFile.mk [] 0 []), (TFile.mk [] 0 []), (TFile.mk [] 0 [])] [(TMark.mk 0 0 0 0), (TMark.mk 0 0 0 0), (TMark.mk 0 0 0 0)] 0))).bind fun r_1 =>
  k0 (r_1.2.2, r_1.1)
def made_Picks_State (most : Int) (p : Ttenancymade_Picks) : Option (TState × Ttenancymade_Picks) := made_Picks_State_k n_ (fun x => some x) most p
theorem made_Picks_State_bind {α : Type} (k0 : (TState × Ttenancymade_Picks) → Option α) (most : Int) (p : Ttenancymade_Picks) : made_Picks_State_k n_ k0 most p = (made_Picks_State n_ most p).bind k0 := by
  unfold made_Picks_State made_Picks_State_k; simp only [bind_cond, Option.bind_assoc, alt_bind, Option.bind_some, Option.bind_none, alt_inl, alt_inr]
@[reducible] def ref5_lasts_k {α : Type} (k0 : (List (List UInt8)) → Option α) (l : List (List UInt8)) (p : TPut) (n : Int) : Option α :=
  bif (decide (l.length ≤ lim)) then (bif (decide (p.At ≥ 0)) then (bif (decide (p.At < (l.length : Int))) then (bif (inR p.At l.length) then (((l[p.At.toNat]?)).bind fun y_1 =>
          bif (cutOk 0 (imin (imax n 0) (imin (p.B.length : Int) (y_1.length : Int))) p.B.length) then (bif (inR p.At l.length) then (((l[p.At.toNat]?)).bind fun y_2 =>
              bif (cutOk (imin (imax n 0) (imin (p.B.length : Int) (y_1.length : Int))) (y_2.length : Int) y_2.length) then (bif (decide (((cutL p.B 0 (imin (imax n 0) (imin (p.B.length : Int) (y_1.length : Int)))).length + (cutL y_2 (imin (imax n 0) (imin (p.B.length : Int) (y_1.length : Int))) (y_2.length : Int)).length) ≤ lim)) then (bif (inR p.At l.length) then (((l[p.At.toNat]?)).bind fun y_3 =>
                    k0 (l.set p.At.toNat ((cutL p.B 0 (imin (imax n 0) (imin (p.B.length : Int) (y_1.length : Int)))) ++ (cutL y_2 (imin (imax n 0) (imin (p.B.length : Int) (y_1.length : Int))) (y_2.length : Int)))))
                  else none)
                else none)
              else none)
            else none)
          else none)
        else none)
      else k0 l)
    else k0 l)
  else none
def ref5_lasts (l : List (List UInt8)) (p : TPut) (n : Int) : Option (List (List UInt8)) := ref5_lasts_k (fun x => some x) l p n
theorem ref5_lasts_bind {α : Type} (k0 : (List (List UInt8)) → Option α) (l : List (List UInt8)) (p : TPut) (n : Int) : ref5_lasts_k k0 l p n = (ref5_lasts l p n).bind k0 := by
  unfold ref5_lasts ref5_lasts_k; simp only [bind_cond, Option.bind_assoc, alt_bind, Option.bind_some, Option.bind_none, alt_inl, alt_inr]
@[reducible] def ref5_Crash_s0k {α : Type} (keep : List Int) (kc : (Int × TDisk × TDisk) → Option α) (k0 : (TDisk × TDisk) → Option α) (k : Int) (d : TDisk) (o1 : TDisk) : Option α :=
  bif (decide (k < (d.Wait.length : Int))) then (bif (decide (k < (keep.length : Int))) then (bif (inR k keep.length) then (((keep[k.toNat]?)).bind fun y_1 =>
        bif (inR k d.Wait.length) then (((d.Wait[k.toNat]?)).bind fun y_2 =>
          ((ref5_lasts d.Last y_2 (imin (imax y_1 0) 32))).bind fun r_3 =>
          kc ((wi64 (k + 1)), (TDisk.mk r_3 d.Wait d.Arm d.Down), (TDisk.mk [] [] o1.Arm o1.Down)))
        else none)
      else none)
    else bif (inR k d.Wait.length) then (((d.Wait[k.toNat]?)).bind fun y_4 =>
        ((ref5_lasts d.Last y_4 0)).bind fun r_5 =>
        kc ((wi64 (k + 1)), (TDisk.mk r_5 d.Wait d.Arm d.Down), (TDisk.mk [] [] o1.Arm o1.Down)))
      else none)
  else k0 (d, (TDisk.mk [] [] o1.Arm o1.Down))
def ref5_Crash_s0 (keep : List Int) (v_ : Int × TDisk × TDisk) : Option ((Int × TDisk × TDisk) ⊕ (TDisk × TDisk)) := ref5_Crash_s0k keep (fun x => some (.inl x)) (fun x => some (.inr x)) v_.1 v_.2.1 v_.2.2
def ref5_Crash_l0 (keep : List Int) (k : Int) (d : TDisk) (o1 : TDisk) : Option (TDisk × TDisk) := iter (ref5_Crash_s0 keep) n_ (k, d, o1)
theorem ref5_Crash_s0_bind {α : Type} (keep : List Int) (kc : (Int × TDisk × TDisk) → Option α) (k0 : (TDisk × TDisk) → Option α) (k : Int) (d : TDisk) (o1 : TDisk) : ref5_Crash_s0k keep kc k0 k d o1 = (ref5_Crash_s0 keep (k, d, o1)).bind fun s_ => alt s_ kc k0 := by
  unfold ref5_Crash_s0 ref5_Crash_s0k; simp only [bind_cond, Option.bind_assoc, alt_bind, Option.bind_some, Option.bind_none, alt_inl, alt_inr]
@[reducible] def ref5_Crash_k {α : Type} (k0 : TDisk → Option α) (d : TDisk) (keep : List Int) : Option α :=
  ((ref5_Crash_l0 n_ keep 0 d (TDisk.mk [] [] 0 false))).bind fun r_1 =>
  k0 (TDisk.mk r_1.1.Last [] 0 false)
def ref5_Crash (d : TDisk) (keep : List Int) : Option TDisk := ref5_Crash_k n_ (fun x => some x) d keep
theorem ref5_Crash_bind {α : Type} (k0 : TDisk → Option α) (d : TDisk) (keep : List Int) : ref5_Crash_k n_ k0 d keep = (ref5_Crash n_ d keep).bind k0 := by
  unfold ref5_Crash ref5_Crash_k; simp only [bind_cond, Option.bind_assoc, alt_bind, Option.bind_some, Option.bind_none, alt_inl, alt_inr]
@[reducible] def law12_StoreKeeps_s0k {α : Type} (which : UInt8) (arm : UInt8) (keep : List Int) (l : List (List UInt8)) (o0 : List (List UInt8)) (kc : (Int × TStore × TState) → Option α) (k0 : (TStore × TState × Ttenancymade_Picks × TState × TStore × TStore) → Option α) (k1 : (TStore × TState × Ttenancymade_Picks × TState × TStore × TStore) → Option α) (k2 : (TStore × TState) → Option α) (i : Int) (st : TStore) (old : TState) : Option α :=
  bif (decide (i < 6)) then (bif (inR i 6) then (((l[i.toNat]?)).bind fun y_1 =>
      bif (cutOk 0 20 y_1.length) then (((made_Picks_State n_ 8 (made_Made (cutL y_1 0 20)))).bind fun r_2 =>
        bif (i == (wi64 (i8 (b8 ((i8 which).tmod 6))))) then (((store_Commit n_ (TStore.mk (TDisk.mk st.D.Last st.D.Wait (wi64 (i8 (b8 ((i8 arm).tmod 30)))) st.D.Down) st.S) r_2.1)).bind fun r_3 =>
          bif r_3.2 then (((ref5_Crash n_ r_3.1.D [])).bind fun r_4 =>
            ((store_Open n_ r_4)).bind fun r_5 =>
            bif (!r_5.2) then k0 ((TStore.mk (TDisk.mk st.D.Last st.D.Wait (wi64 (i8 (b8 ((i8 arm).tmod 30)))) st.D.Down) st.S), old, r_2.2, r_2.1, r_3.1, r_5.1)
            else ((ref7_SameState n_ r_5.1.S r_2.1)).bind fun r_6 =>
              bif (!r_6) then k0 ((TStore.mk (TDisk.mk st.D.Last st.D.Wait (wi64 (i8 (b8 ((i8 arm).tmod 30)))) st.D.Down) st.S), old, r_2.2, r_2.1, r_3.1, r_5.1)
              else ((ref7_SameState n_ r_3.1.S r_2.1)).bind fun r_7 =>
                bif (!r_7) then k0 ((TStore.mk (TDisk.mk st.D.Last st.D.Wait (wi64 (i8 (b8 ((i8 arm).tmod 30)))) st.D.Down) st.S), old, r_2.2, r_2.1, r_3.1, r_5.1)
                else kc ((wi64 (i + 1)), r_3.1, r_2.1))
          else ((ref5_Crash n_ r_3.1.D keep)).bind fun r_8 =>
            ((store_Open n_ r_8)).bind fun r_9 =>
            bif (!r_9.2) then k0 ((TStore.mk (TDisk.mk st.D.Last st.D.Wait (wi64 (i8 (b8 ((i8 arm).tmod 30)))) st.D.Down) st.S), old, r_2.2, r_2.1, r_3.1, r_9.1)
            else ((ref7_SameState n_ r_9.1.S r_2.1)).bind fun r_10 =>
              bif (!r_10) then (((ref7_SameState n_ r_9.1.S old)).bind fun r_11 =>
                bif (!r_11) then k0 ((TStore.mk (TDisk.mk st.D.Last st.D.Wait (wi64 (i8 (b8 ((i8 arm).tmod 30)))) st.D.Down) st.S), old, r_2.2, r_2.1, r_3.1, r_9.1)
                else ((ref7_SameState n_ r_3.1.S old)).bind fun r_12 =>
                  bif (!r_12) then k0 ((TStore.mk (TDisk.mk st.D.Last st.D.Wait (wi64 (i8 (b8 ((i8 arm).tmod 30)))) st.D.Down) st.S), old, r_2.2, r_2.1, r_3.1, r_9.1)
                  else kc ((wi64 (i + 1)), r_9.1, r_9.1.S))
              else ((ref7_SameState n_ r_3.1.S old)).bind fun r_13 =>
                bif (!r_13) then k0 ((TStore.mk (TDisk.mk st.D.Last st.D.Wait (wi64 (i8 (b8 ((i8 arm).tmod 30)))) st.D.Down) st.S), old, r_2.2, r_2.1, r_3.1, r_9.1)
                else kc ((wi64 (i + 1)), r_9.1, r_9.1.S))
        else ((store_Commit n_ st r_2.1)).bind fun r_14 =>
          bif r_14.2 then (((ref5_Crash n_ r_14.1.D [])).bind fun r_15 =>
            ((store_Open n_ r_15)).bind fun r_16 =>
            bif (!r_16.2) then k1 (st, old, r_2.2, r_2.1, r_14.1, r_16.1)
            else ((ref7_SameState n_ r_16.1.S r_2.1)).bind fun r_17 =>
              bif (!r_17) then k1 (st, old, r_2.2, r_2.1, r_14.1, r_16.1)
              else ((ref7_SameState n_ r_14.1.S r_2.1)).bind fun r_18 =>
                bif (!r_18) then k1 (st, old, r_2.2, r_2.1, r_14.1, r_16.1)
                else kc ((wi64 (i + 1)), r_14.1, r_2.1))
          else ((ref5_Crash n_ r_14.1.D keep)).bind fun r_19 =>
            ((store_Open n_ r_19)).bind fun r_20 =>
            bif (!r_20.2) then k1 (st, old, r_2.2, r_2.1, r_14.1, r_20.1)
            else ((ref7_SameState n_ r_20.1.S r_2.1)).bind fun r_21 =>
              bif (!r_21) then (((ref7_SameState n_ r_20.1.S old)).bind fun r_22 =>
                bif (!r_22) then k1 (st, old, r_2.2, r_2.1, r_14.1, r_20.1)
                else ((ref7_SameState n_ r_14.1.S old)).bind fun r_23 =>
                  bif (!r_23) then k1 (st, old, r_2.2, r_2.1, r_14.1, r_20.1)
                  else kc ((wi64 (i + 1)), r_20.1, r_20.1.S))
              else ((ref7_SameState n_ r_14.1.S old)).bind fun r_24 =>
                bif (!r_24) then k1 (st, old, r_2.2, r_2.1, r_14.1, r_20.1)
                else kc ((wi64 (i + 1)), r_20.1, r_20.1.S))
      else none)
    else none)
  else k2 (st, old)
def law12_StoreKeeps_s0 (which : UInt8) (arm : UInt8) (keep : List Int) (l : List (List UInt8)) (o0 : List (List UInt8)) (v_ : Int × TStore × TState) : Option ((Int × TStore × TState) ⊕ ((TStore × TState × Ttenancymade_Picks × TState × TStore × TStore) ⊕ ((TStore × TState × Ttenancymade_Picks × TState × TStore × TStore) ⊕ (TStore × TState)))) := law12_StoreKeeps_s0k n_ which arm keep l o0 (fun x => some (.inl x)) (fun x => some (.inr (.inl x))) (fun x => some (.inr (.inr (.inl x)))) (fun x => some (.inr (.inr (.inr x)))) v_.1 v_.2.1 v_.2.2
def law12_StoreKeeps_l0 (which : UInt8) (arm : UInt8) (keep : List Int) (l : List (List UInt8)) (o0 : List (List UInt8)) (i : Int) (st : TStore) (old : TState) : Option ((TStore × TState × Ttenancymade_Picks × TState × TStore × TStore) ⊕ ((TStore × TState × Ttenancymade_Picks × TState × TStore × TStore) ⊕ (TStore × TState))) := iter (law12_StoreKeeps_s0 n_ which arm keep l o0) n_ (i, st, old)
theorem law12_StoreKeeps_s0_bind {α : Type} (which : UInt8) (arm : UInt8) (keep : List Int) (l : List (List UInt8)) (o0 : List (List UInt8)) (kc : (Int × TStore × TState) → Option α) (k0 : (TStore × TState × Ttenancymade_Picks × TState × TStore × TStore) → Option α) (k1 : (TStore × TState × Ttenancymade_Picks × TState × TStore × TStore) → Option α) (k2 : (TStore × TState) → Option α) (i : Int) (st : TStore) (old : TState) : law12_StoreKeeps_s0k n_ which arm keep l o0 kc k0 k1 k2 i st old = (law12_StoreKeeps_s0 n_ which arm keep l o0 (i, st, old)).bind fun s_ => alt s_ kc (fun s0_ => alt s0_ k0 (fun s1_ => alt s1_ k1 k2)) := by
  unfold law12_StoreKeeps_s0 law12_StoreKeeps_s0k; simp only [bind_cond, Option.bind_assoc, alt_bind, Option.bind_some, Option.bind_none, alt_inl, alt_inr]
@[reducible] def law12_StoreKeeps_k {α : Type} (k0 : Bool → Option α) (l : List (List UInt8)) (which : UInt8) (arm : UInt8) (keep : List Int) : Option α :=
  ((law12_begun n_)).bind fun r_1 =>
  bif (!r_1) then k0 false
  else bif (decide ((keep.length : Int) > 20)) then k0 true
    else ((store_Make n_)).bind fun r_2 =>
      ((law12_StoreKeeps_l0 n_ which arm keep l l 0 r_2 r_2.S)).bind fun r_3 =>
      alt r_3 (fun a_4 =>
        k0 false) (fun b_5 =>
        alt b_5 (fun a_6 =>
          k0 false) (fun b_7 =>
          k0 true))
def law12_StoreKeeps (l : List (List UInt8)) (which : UInt8) (arm : UInt8) (keep : List Int) : Option Bool := law12_StoreKeeps_k n_ (fun x => some x) l which arm keep
theorem law12_StoreKeeps_bind {α : Type} (k0 : Bool → Option α) (l : List (List UInt8)) (which : UInt8) (arm : UInt8) (keep : List Int) : law12_StoreKeeps_k n_ k0 l which arm keep = (law12_StoreKeeps n_ l which arm keep).bind k0 := by
  unfold law12_StoreKeeps law12_StoreKeeps_k; simp only [bind_cond, Option.bind_assoc, alt_bind, Option.bind_some, Option.bind_none, alt_inl, alt_inr]
@[reducible] def ref5_noughts_k {α : Type} (k : Unit → α) : α :=
  k ()
def ref5_noughts : Unit := ref5_noughts_k id
theorem ref5_noughts_bind {α : Type} (k : Unit → α) : ref5_noughts_k k = k (ref5_noughts) := by
  unfold ref5_noughts ref5_noughts_k; simp only [Bool.apply_cond k, id]
@[reducible] def ref5_New_s0k {α : Type} (n : Int) (kc : (Int × TDisk × TDisk) → Option α) (k0 : (TDisk × TDisk) → Option α) (i : Int) (o0 : TDisk) (d : TDisk) : Option α :=
  bif (decide (i < n)) then (bif (decide (n ≤ 64)) then (bif (decide ((d.Last.length + 1) ≤ lim)) then kc ((wi64 (i + 1)), (TDisk.mk [] [] o0.Arm o0.Down), (TDisk.mk (d.Last ++ [[0, 0, 0, 0, 0, 0, 0, 0, 0, 0, 0, 0, 0, 0, 0, 0, 0, 0, 0, 0, 0, 0, 0, 0, 0, 0, 0, 0, 0, 0, 0, 0]]) [] d.Arm d.Down))
      else none)
    else k0 ((TDisk.mk [] [] o0.Arm o0.Down), (TDisk.mk d.Last [] d.Arm d.Down)))
  else k0 ((TDisk.mk [] [] o0.Arm o0.Down), (TDisk.mk d.Last [] d.Arm d.Down))
def ref5_New_s0 (n : Int) (v_ : Int × TDisk × TDisk) : Option ((Int × TDisk × TDisk) ⊕ (TDisk × TDisk)) := ref5_New_s0k n (fun x => some (.inl x)) (fun x => some (.inr x)) v_.1 v_.2.1 v_.2.2
def ref5_New_l0 (n : Int) (i : Int) (o0 : TDisk) (d : TDisk) : Option (TDisk × TDisk) := iter (ref5_New_s0 n) n_ (i, o0, d)
theorem ref5_New_s0_bind {α : Type} (n : Int) (kc : (Int × TDisk × TDisk) → Option α) (k0 : (TDisk × TDisk) → Option α) (i : Int) (o0 : TDisk) (d : TDisk) : ref5_New_s0k n kc k0 i o0 d = (ref5_New_s0 n (i, o0, d)).bind fun s_ => alt s_ kc k0 := by
  unfold ref5_New_s0 ref5_New_s0k; simp only [bind_cond, Option.bind_assoc, alt_bind, Option.bind_some, Option.bind_none, alt_inl, alt_inr]
@[reducible] def ref5_New_k {α : Type} (k0 : TDisk → Option α) (n : Int) : Option α :=
  ((ref5_New_l0 n_ n 0 (TDisk.mk [] [] 0 false) (TDisk.mk [] [] 0 false))).bind fun r_1 =>
  k0 (TDisk.mk r_1.2.Last [] r_1.2.Arm r_1.2.Down)
def ref5_New (n : Int) : Option TDisk := ref5_New_k n_ (fun x => some x) n
theorem ref5_New_bind {α : Type} (k0 : TDisk → Option α) (n : Int) : ref5_New_k n_ k0 n = (ref5_New n_ n).bind k0 := by
  unfold ref5_New ref5_New_k; simp only [bind_cond, Option.bind_assoc, alt_bind, Option.bind_some, Option.bind_none, alt_inl, alt_inr]
@[reducible] def ref5_SameTexts_s0k {α : Type} (a : List (List UInt8)) (b : List (List UInt8)) (kc : Int → Option α) (k0 : Unit → Option α) (k1 : Unit → Option α) (i : Int) : Option α :=
  bif (decide (i < (a.length : Int))) then (bif (inR i a.length) then (((a[i.toNat]?)).bind fun y_1 =>
      bif (inR i b.length) then (((b[i.toNat]?)).bind fun y_2 =>
        bif (!(y_1 == y_2)) then k0 ()
        else kc (wi64 (i + 1)))
      else none)
    else none)
  else k1 ()
def ref5_SameTexts_s0 (a : List (List UInt8)) (b : List (List UInt8)) (v_ : Int) : Option (Int ⊕ (Unit ⊕ Unit)) := ref5_SameTexts_s0k a b (fun x => some (.inl x)) (fun x => some (.inr (.inl x))) (fun x => some (.inr (.inr x))) v_
def ref5_SameTexts_l0 (a : List (List UInt8)) (b : List (List UInt8)) (i : Int) : Option (Unit ⊕ Unit) := iter (ref5_SameTexts_s0 a b) n_ i
theorem ref5_SameTexts_s0_bind {α : Type} (a : List (List UInt8)) (b : List (List UInt8)) (kc : Int → Option α) (k0 : Unit → Option α) (k1 : Unit → Option α) (i : Int) : ref5_SameTexts_s0k a b kc k0 k1 i = (ref5_SameTexts_s0 a b i).bind fun s_ => alt s_ kc (fun s0_ => alt s0_ k0 k1) := by
  unfold ref5_SameTexts_s0 ref5_SameTexts_s0k; simp only [bind_cond, Option.bind_assoc, alt_bind, Option.bind_some, Option.bind_none, alt_inl, alt_inr]
@[reducible] def ref5_SameTexts_k {α : Type} (k0 : Bool → Option α) (a : List (List UInt8)) (b : List (List UInt8)) : Option α :=
  bif ((a.length : Int) != (b.length : Int)) then k0 false
  else ((ref5_SameTexts_l0 n_ a b 0)).bind fun r_1 =>
    alt r_1 (fun a_2 =>
      k0 false) (fun b_3 =>
      k0 true)
def ref5_SameTexts (a : List (List UInt8)) (b : List (List UInt8)) : Option Bool := ref5_SameTexts_k n_ (fun x => some x) a b
theorem ref5_SameTexts_bind {α : Type} (k0 : Bool → Option α) (a : List (List UInt8)) (b : List (List UInt8)) : ref5_SameTexts_k n_ k0 a b = (ref5_SameTexts n_ a b).bind k0 := by
  unfold ref5_SameTexts ref5_SameTexts_k; simp only [bind_cond, Option.bind_assoc, alt_bind, Option.bind_some, Option.bind_none, alt_inl, alt_inr]
@[reducible] def ref5_SamePuts_s0k {α : Type} (a : List TPut) (b : List TPut) (kc : Int → Option α) (k0 : Unit → Option α) (k1 : Unit → Option α) (i : Int) : Option α :=
  bif (decide (i < (a.length : Int))) then (bif (inR i a.length) then (((a[i.toNat]?)).bind fun y_1 =>
      bif (inR i b.length) then (((b[i.toNat]?)).bind fun y_2 =>
        bif (!(TPut.eqb y_1 y_2)) then k0 ()
        else kc (wi64 (i + 1)))
      else none)
    else none)
  else k1 ()
def ref5_SamePuts_s0 (a : List TPut) (b : List TPut) (v_ : Int) : Option (Int ⊕ (Unit ⊕ Unit)) := ref5_SamePuts_s0k a b (fun x => some (.inl x)) (fun x => some (.inr (.inl x))) (fun x => some (.inr (.inr x))) v_
def ref5_SamePuts_l0 (a : List TPut) (b : List TPut) (i : Int) : Option (Unit ⊕ Unit) := iter (ref5_SamePuts_s0 a b) n_ i
theorem ref5_SamePuts_s0_bind {α : Type} (a : List TPut) (b : List TPut) (kc : Int → Option α) (k0 : Unit → Option α) (k1 : Unit → Option α) (i : Int) : ref5_SamePuts_s0k a b kc k0 k1 i = (ref5_SamePuts_s0 a b i).bind fun s_ => alt s_ kc (fun s0_ => alt s0_ k0 k1) := by
  unfold ref5_SamePuts_s0 ref5_SamePuts_s0k; simp only [bind_cond, Option.bind_assoc, alt_bind, Option.bind_some, Option.bind_none, alt_inl, alt_inr]
@[reducible] def ref5_SamePuts_k {α : Type} (k0 : Bool → Option α) (a : List TPut) (b : List TPut) : Option α :=
  bif ((a.length : Int) != (b.length : Int)) then k0 false
  else ((ref5_SamePuts_l0 n_ a b 0)).bind fun r_1 =>
    alt r_1 (fun a_2 =>
      k0 false) (fun b_3 =>
      k0 true)
def ref5_SamePuts (a : List TPut) (b : List TPut) : Option Bool := ref5_SamePuts_k n_ (fun x => some x) a b
theorem ref5_SamePuts_bind {α : Type} (k0 : Bool → Option α) (a : List TPut) (b : List TPut) : ref5_SamePuts_k n_ k0 a b = (ref5_SamePuts n_ a b).bind k0 := by
  unfold ref5_SamePuts ref5_SamePuts_k; simp only [bind_cond, Option.bind_assoc, alt_bind, Option.bind_some, Option.bind_none, alt_inl, alt_inr]
@[reducible] def ref5_Same_k {α : Type} (k0 : Bool → Option α) (a : TDisk) (b : TDisk) : Option α :=
  ((ref5_SameTexts n_ a.Last b.Last)).bind fun r_1 =>
  bif r_1 then (((ref5_SamePuts n_ a.Wait b.Wait)).bind fun r_2 =>
    bif r_2 then (bif (a.Arm == b.Arm) then k0 (a.Down == b.Down)
      else k0 false)
    else k0 false)
  else k0 false
def ref5_Same (a : TDisk) (b : TDisk) : Option Bool := ref5_Same_k n_ (fun x => some x) a b
theorem ref5_Same_bind {α : Type} (k0 : Bool → Option α) (a : TDisk) (b : TDisk) : ref5_Same_k n_ k0 a b = (ref5_Same n_ a b).bind k0 := by
  unfold ref5_Same ref5_Same_k; simp only [bind_cond, Option.bind_assoc, alt_bind, Option.bind_some, Option.bind_none, alt_inl, alt_inr]
@[reducible] def ref7_SameStore_k {α : Type} (k0 : Bool → Option α) (a : TStore) (b : TStore) : Option α :=
  ((ref5_Same n_ a.D b.D)).bind fun r_1 =>
  bif r_1 then (((ref7_SameState n_ a.S b.S)).bind fun r_2 =>
    k0 r_2)
  else k0 false
def ref7_SameStore (a : TStore) (b : TStore) : Option Bool := ref7_SameStore_k n_ (fun x => some x) a b
theorem ref7_SameStore_bind {α : Type} (k0 : Bool → Option α) (a : TStore) (b : TStore) : ref7_SameStore_k n_ k0 a b = (ref7_SameStore n_ a b).bind k0 := by
  unfold ref7_SameStore ref7_SameStore_k; simp only [bind_cond, Option.bind_assoc, alt_bind, Option.bind_some, Option.bind_none, alt_inl, alt_inr]
@[reducible] def law12_StoreForms_k {α : Type} (k0 : Bool → Option α) : Option α :=
  ((law12_begun n_)).bind fun r_1 =>
  bif (!r_1) then k0 false
  else ((store_Make n_)).bind fun r_2 =>
    ((ref7_Open n_ r_2.S 1 1 [97])).bind fun r_3 =>
    ((store_Commit n_ r_2 (TState.mk r_3.1.Files r_3.1.Marks (-1)))).bind fun r_4 =>
    ((store_Commit n_ r_2 r_3.1)).bind fun r_5 =>
    ((store_Commit n_ r_5.1 r_3.1)).bind fun r_6 =>
    bif ((r_5.1.D.Last.length : Int) != 19) then k0 false
    else bif (inR 8 r_5.1.D.Last.length) then (((r_5.1.D.Last[8]?)).bind fun y_7 =>
        bif ((y_7.length : Int) != 32) then k0 false
        else ((store_Open n_ (TDisk.mk r_5.1.D.Last r_5.1.D.Wait r_5.1.D.Arm true))).bind fun r_8 =>
          bif (cutOk 0 (wi64 ((r_5.1.D.Last.length : Int) - 1)) r_5.1.D.Last.length) then (((store_Open n_ (TDisk.mk (cutL r_5.1.D.Last 0 (wi64 ((r_5.1.D.Last.length : Int) - 1))) [] 0 false))).bind fun r_9 =>
            ((ref5_New n_ 19)).bind fun r_10 =>
            ((store_Open n_ r_10)).bind fun r_11 =>
            bif (decide (r_5.1.D.Last.length ≤ lim)) then (bif (inR 8 r_5.1.D.Last.length) then (((r_5.1.D.Last[8]?)).bind fun y_12 =>
                bif (cutOk 0 31 y_12.length) then (bif (decide (((cutL y_12 0 31).length + [120].length) ≤ lim)) then (bif (inR 8 r_5.1.D.Last.length) then (((r_5.1.D.Last[8]?)).bind fun y_13 =>
                      ((store_Open n_ (TDisk.mk (r_5.1.D.Last.set 8 ((cutL y_12 0 31) ++ [120])) [] 0 false))).bind fun r_14 =>
                      bif (!r_4.2) then (((ref7_SameStore n_ r_4.1 r_2)).bind fun r_15 =>
                        bif r_15 then (bif r_5.2 then (bif r_6.2 then (((ref7_SameStore n_ r_6.1 r_5.1)).bind fun r_16 =>
                              bif r_16 then (bif (!r_8.2) then (bif (!r_9.2) then (bif r_11.2 then (bif (r_14.1.S.Epoch == 0) then (bif (r_14.2 == ((r_14.1.S.Files.length : Int) == 6)) then k0 ((r_5.1.D.Wait.length : Int) == 0)
                                        else k0 false)
                                      else bif (r_14.2 == false) then k0 ((r_5.1.D.Wait.length : Int) == 0)
                                        else k0 false)
                                    else k0 false)
                                  else k0 false)
                                else k0 false)
                              else k0 false)
                            else k0 false)
                          else k0 false)
                        else k0 false)
                      else k0 false)
                    else none)
                  else none)
                else none)
              else none)
            else none)
          else none)
      else none
def law12_StoreForms : Option Bool := law12_StoreForms_k n_ (fun x => some x)
theorem law12_StoreForms_bind {α : Type} (k0 : Bool → Option α) : law12_StoreForms_k n_ k0 = (law12_StoreForms n_).bind k0 := by
  unfold law12_StoreForms law12_StoreForms_k; simp only [bind_cond, Option.bind_assoc, alt_bind, Option.bind_some, Option.bind_none, alt_inl, alt_inr]
end
end Go.Proofs.YtinbnobanikfmaaGreatDoor.N
