/- The nice functions: what the program's functions come to. -/
import Derived.Test.YthefogjlenmgfaaBase6
set_option linter.unusedVariables false
set_option linter.unusedSimpArgs false
set_option maxRecDepth 10000
namespace Go.Proofs.Ythefogjlenmgfaa.N
noncomputable section
variable (n_ : Nat)

/-! tenancy/tenancyref7.NewState -/
@[reducible] def ref7_NewState_k {α : Type} (k : Unit → α) : α :=
  k ()
def ref7_NewState : Unit := ref7_NewState_k id
theorem ref7_NewState_bind {α : Type} (k : Unit → α) : ref7_NewState_k k = k (ref7_NewState) := by
  unfold ref7_NewState ref7_NewState_k; simp only [Bool.apply_cond k, id]

/-! tenancy/state.number -/
@[reducible] def state_number_k {α : Type} (k : Bool → α) (v : Int) : α :=
  bif (decide (v ≥ 0)) then k (decide (v ≤ 1073741824))
  else k false
def state_number (v : Int) : Bool := state_number_k id v
theorem state_number_bind {α : Type} (k : Bool → α) (v : Int) : state_number_k k v = k (state_number v) := by
  unfold state_number state_number_k; simp only [Bool.apply_cond k, id]

/-! tenancy/dir.May -/
@[reducible] def dir_May_s0k {α : Type} (name : List UInt8) (t7 : Int) (r0 : List UInt8) (kc : Int → Option α) (k0 : Unit → Option α) (k1 : Unit → Option α) (t8 : Int) : Option α :=
  bif (decide (t8 < t7)) then (bif (inR t8 r0.length) then (((r0[t8.toNat]?)).bind fun y_1 =>
      bif (decide ((i8 y_1) < 33)) then k0 ()
      else bif (decide ((i8 y_1) > 126)) then k0 ()
        else kc (wi64 (t8 + 1)))
    else none)
  else k1 ()
def dir_May_s0 (name : List UInt8) (t7 : Int) (r0 : List UInt8) (v_ : Int) : Option (Int ⊕ (Unit ⊕ Unit)) := dir_May_s0k name t7 r0 (fun x => some (.inl x)) (fun x => some (.inr (.inl x))) (fun x => some (.inr (.inr x))) v_
def dir_May_l0 (name : List UInt8) (t7 : Int) (r0 : List UInt8) (t8 : Int) : Option (Unit ⊕ Unit) := iter (dir_May_s0 name t7 r0) n_ t8
theorem dir_May_s0_bind {α : Type} (name : List UInt8) (t7 : Int) (r0 : List UInt8) (kc : Int → Option α) (k0 : Unit → Option α) (k1 : Unit → Option α) (t8 : Int) : dir_May_s0k name t7 r0 kc k0 k1 t8 = (dir_May_s0 name t7 r0 t8).bind fun s_ => alt s_ kc (fun s0_ => alt s0_ k0 k1) := by
  unfold dir_May_s0 dir_May_s0k; simp only [bind_cond, Option.bind_assoc, alt_bind, Option.bind_some, Option.bind_none, alt_inl, alt_inr]
@[reducible] def dir_May_k {α : Type} (k0 : Bool → Option α) (name : List UInt8) : Option α :=
  ((dir_May_l0 n_ name (name.length : Int) name 0)).bind fun r_1 =>
  alt r_1 (fun a_2 =>
    k0 false) (fun b_3 =>
    bif (decide ((name.length : Int) ≥ 1)) then k0 (decide ((name.length : Int) ≤ 8))
    else k0 false)
def dir_May (name : List UInt8) : Option Bool := dir_May_k n_ (fun x => some x) name
theorem dir_May_bind {α : Type} (k0 : Bool → Option α) (name : List UInt8) : dir_May_k n_ k0 name = (dir_May n_ name).bind k0 := by
  unfold dir_May dir_May_k; simp only [bind_cond, Option.bind_assoc, alt_bind, Option.bind_some, Option.bind_none, alt_inl, alt_inr]

/-! tenancy/state.mayFile -/
@[reducible] def state_mayFile_k {α : Type} (k0 : Bool → Option α) (f : TFile) : Option α :=
  bif (f.Name == []) then k0 (TFile.eqb f (TFile.mk [] 0 []))
  else ((dir_May n_ f.Name)).bind fun r_1 =>
    bif r_1 then (bif (decide (f.Ver ≥ 1)) then (bif (state_number f.Ver) then k0 (decide ((f.Body.length : Int) ≤ 24))
        else k0 false)
      else k0 false)
    else k0 false
def state_mayFile (f : TFile) : Option Bool := state_mayFile_k n_ (fun x => some x) f
theorem state_mayFile_bind {α : Type} (k0 : Bool → Option α) (f : TFile) : state_mayFile_k n_ k0 f = (state_mayFile n_ f).bind k0 := by
  unfold state_mayFile state_mayFile_k; simp only [bind_cond, Option.bind_assoc, alt_bind, Option.bind_some, Option.bind_none, alt_inl, alt_inr]

/-! tenancy/state.May$1 -/
@[reducible] def state_May_c1_k {α : Type} (k : Bool → α) (g : TFile) (o0 : TFile) : α :=
  bif (!(o0.Name == [])) then k (g.Name == o0.Name)
  else k false
def state_May_c1 (g : TFile) (o0 : TFile) : Bool := state_May_c1_k id g o0
theorem state_May_c1_bind {α : Type} (k : Bool → α) (g : TFile) (o0 : TFile) : state_May_c1_k k g o0 = k (state_May_c1 g o0) := by
  unfold state_May_c1 state_May_c1_k; simp only [Bool.apply_cond k, id]

/-! slices.IndexFunc[[]tenancy/api.File,tenancy/api.File] -/
@[reducible] def slices_IndexFunc_File_s0k {α : Type} (s : List TFile) (t7 : Int) (o0 : TFile) (kc : Int → Option α) (k0 : Int → Option α) (k1 : Unit → Option α) (t8 : Int) : Option α :=
  bif (decide (t8 < t7)) then (bif (inR t8 s.length) then (((s[t8.toNat]?)).bind fun y_1 =>
      bif (state_May_c1 y_1 o0) then k0 t8
      else kc (wi64 (t8 + 1)))
    else none)
  else k1 ()
def slices_IndexFunc_File_s0 (s : List TFile) (t7 : Int) (o0 : TFile) (v_ : Int) : Option (Int ⊕ (Int ⊕ Unit)) := slices_IndexFunc_File_s0k s t7 o0 (fun x => some (.inl x)) (fun x => some (.inr (.inl x))) (fun x => some (.inr (.inr x))) v_
def slices_IndexFunc_File_l0 (s : List TFile) (t7 : Int) (o0 : TFile) (t8 : Int) : Option (Int ⊕ Unit) := iter (slices_IndexFunc_File_s0 s t7 o0) n_ t8
theorem slices_IndexFunc_File_s0_bind {α : Type} (s : List TFile) (t7 : Int) (o0 : TFile) (kc : Int → Option α) (k0 : Int → Option α) (k1 : Unit → Option α) (t8 : Int) : slices_IndexFunc_File_s0k s t7 o0 kc k0 k1 t8 = (slices_IndexFunc_File_s0 s t7 o0 t8).bind fun s_ => alt s_ kc (fun s0_ => alt s0_ k0 k1) := by
  unfold slices_IndexFunc_File_s0 slices_IndexFunc_File_s0k; simp only [bind_cond, Option.bind_assoc, alt_bind, Option.bind_some, Option.bind_none, alt_inl, alt_inr]
@[reducible] def slices_IndexFunc_File_k {α : Type} (k0 : Int → Option α) (s : List TFile) (o0 : TFile) : Option α :=
  ((slices_IndexFunc_File_l0 n_ s (s.length : Int) o0 0)).bind fun r_1 =>
  alt r_1 (fun a_2 =>
    k0 a_2) (fun b_3 =>
    k0 (-1))
def slices_IndexFunc_File (s : List TFile) (o0 : TFile) : Option Int := slices_IndexFunc_File_k n_ (fun x => some x) s o0
theorem slices_IndexFunc_File_bind {α : Type} (k0 : Int → Option α) (s : List TFile) (o0 : TFile) : slices_IndexFunc_File_k n_ k0 s o0 = (slices_IndexFunc_File n_ s o0).bind k0 := by
  unfold slices_IndexFunc_File slices_IndexFunc_File_k; simp only [bind_cond, Option.bind_assoc, alt_bind, Option.bind_some, Option.bind_none, alt_inl, alt_inr]

/-! slices.ContainsFunc[[]tenancy/api.File,tenancy/api.File] -/
@[reducible] def slices_ContainsFunc_File_k {α : Type} (k0 : Bool → Option α) (s : List TFile) (o0 : TFile) : Option α :=
  ((slices_IndexFunc_File n_ s o0)).bind fun r_1 =>
  k0 (decide (r_1 ≥ 0))
def slices_ContainsFunc_File (s : List TFile) (o0 : TFile) : Option Bool := slices_ContainsFunc_File_k n_ (fun x => some x) s o0
theorem slices_ContainsFunc_File_bind {α : Type} (k0 : Bool → Option α) (s : List TFile) (o0 : TFile) : slices_ContainsFunc_File_k n_ k0 s o0 = (slices_ContainsFunc_File n_ s o0).bind k0 := by
  unfold slices_ContainsFunc_File slices_ContainsFunc_File_k; simp only [bind_cond, Option.bind_assoc, alt_bind, Option.bind_some, Option.bind_none, alt_inl, alt_inr]

/-! tenancy/state.mayMark -/
@[reducible] def state_mayMark_k {α : Type} (k : Bool → α) (m : TMark) : α :=
  bif (state_number m.Seq) then (bif (decide (m.File ≥ 0)) then (bif (decide (m.File ≤ 6)) then (bif (state_number m.Ver) then (bif (decide (m.Err ≥ 0)) then k (decide (m.Err ≤ 3))
          else k false)
        else k false)
      else k false)
    else k false)
  else k false
def state_mayMark (m : TMark) : Bool := state_mayMark_k id m
theorem state_mayMark_bind {α : Type} (k : Bool → α) (m : TMark) : state_mayMark_k k m = k (state_mayMark m) := by
  unfold state_mayMark state_mayMark_k; simp only [Bool.apply_cond k, id]

/-! tenancy/state.May$2 -/
@[reducible] def state_May_c2_k {α : Type} (k : Bool → α) (m : TMark) : α :=
  k (!(state_mayMark m))
def state_May_c2 (m : TMark) : Bool := state_May_c2_k id m
theorem state_May_c2_bind {α : Type} (k : Bool → α) (m : TMark) : state_May_c2_k k m = k (state_May_c2 m) := by
  unfold state_May_c2 state_May_c2_k; simp only [Bool.apply_cond k, id]

/-! slices.IndexFunc[[]tenancy/api.Mark,tenancy/api.Mark] -/
@[reducible] def slices_IndexFunc_Mark_s0k {α : Type} (s : List TMark) (t7 : Int) (kc : Int → Option α) (k0 : Int → Option α) (k1 : Unit → Option α) (t8 : Int) : Option α :=
  bif (decide (t8 < t7)) then (bif (inR t8 s.length) then (((s[t8.toNat]?)).bind fun y_1 =>
      bif (state_May_c2 y_1) then k0 t8
      else kc (wi64 (t8 + 1)))
    else none)
  else k1 ()
def slices_IndexFunc_Mark_s0 (s : List TMark) (t7 : Int) (v_ : Int) : Option (Int ⊕ (Int ⊕ Unit)) := slices_IndexFunc_Mark_s0k s t7 (fun x => some (.inl x)) (fun x => some (.inr (.inl x))) (fun x => some (.inr (.inr x))) v_
def slices_IndexFunc_Mark_l0 (s : List TMark) (t7 : Int) (t8 : Int) : Option (Int ⊕ Unit) := iter (slices_IndexFunc_Mark_s0 s t7) n_ t8
theorem slices_IndexFunc_Mark_s0_bind {α : Type} (s : List TMark) (t7 : Int) (kc : Int → Option α) (k0 : Int → Option α) (k1 : Unit → Option α) (t8 : Int) : slices_IndexFunc_Mark_s0k s t7 kc k0 k1 t8 = (slices_IndexFunc_Mark_s0 s t7 t8).bind fun s_ => alt s_ kc (fun s0_ => alt s0_ k0 k1) := by
  unfold slices_IndexFunc_Mark_s0 slices_IndexFunc_Mark_s0k; simp only [bind_cond, Option.bind_assoc, alt_bind, Option.bind_some, Option.bind_none, alt_inl, alt_inr]
@[reducible] def slices_IndexFunc_Mark_k {α : Type} (k0 : Int → Option α) (s : List TMark) : Option α :=
  ((slices_IndexFunc_Mark_l0 n_ s (s.length : Int) 0)).bind fun r_1 =>
  alt r_1 (fun a_2 =>
    k0 a_2) (fun b_3 =>
    k0 (-1))
def slices_IndexFunc_Mark (s : List TMark) : Option Int := slices_IndexFunc_Mark_k n_ (fun x => some x) s
theorem slices_IndexFunc_Mark_bind {α : Type} (k0 : Int → Option α) (s : List TMark) : slices_IndexFunc_Mark_k n_ k0 s = (slices_IndexFunc_Mark n_ s).bind k0 := by
  unfold slices_IndexFunc_Mark slices_IndexFunc_Mark_k; simp only [bind_cond, Option.bind_assoc, alt_bind, Option.bind_some, Option.bind_none, alt_inl, alt_inr]

/-! slices.ContainsFunc[[]tenancy/api.Mark,tenancy/api.Mark] -/
@[reducible] def slices_ContainsFunc_Mark_k {α : Type} (k0 : Bool → Option α) (s : List TMark) : Option α :=
  ((slices_IndexFunc_Mark n_ s)).bind fun r_1 =>
  k0 (decide (r_1 ≥ 0))
def slices_ContainsFunc_Mark (s : List TMark) : Option Bool := slices_ContainsFunc_Mark_k n_ (fun x => some x) s
theorem slices_ContainsFunc_Mark_bind {α : Type} (k0 : Bool → Option α) (s : List TMark) : slices_ContainsFunc_Mark_k n_ k0 s = (slices_ContainsFunc_Mark n_ s).bind k0 := by
  unfold slices_ContainsFunc_Mark slices_ContainsFunc_Mark_k; simp only [bind_cond, Option.bind_assoc, alt_bind, Option.bind_some, Option.bind_none, alt_inl, alt_inr]

/-! tenancy/state.May -/
@[reducible] def state_May_s0k {α : Type} (t23 : List TFile) (t24 : Int) (s : TState) (kc : Int → Option α) (k0 : TFile → Option α) (k1 : Unit → Option α) (t25 : Int) : Option α :=
  bif (decide (t25 < t24)) then (bif (inR t25 t23.length) then (((t23[t25.toNat]?)).bind fun y_1 =>
      ((state_mayFile n_ y_1)).bind fun r_2 =>
      bif (!r_2) then k0 y_1
      else bif (cutOk 0 t25 s.Files.length) then (((slices_ContainsFunc_File n_ (cutL s.Files 0 t25) y_1)).bind fun r_3 =>
          bif r_3 then k0 y_1
          else kc (wi64 (t25 + 1)))
        else none)
    else none)
  else k1 ()
def state_May_s0 (t23 : List TFile) (t24 : Int) (s : TState) (v_ : Int) : Option (Int ⊕ (TFile ⊕ Unit)) := state_May_s0k n_ t23 t24 s (fun x => some (.inl x)) (fun x => some (.inr (.inl x))) (fun x => some (.inr (.inr x))) v_
def state_May_l0 (t23 : List TFile) (t24 : Int) (s : TState) (t25 : Int) : Option (TFile ⊕ Unit) := iter (state_May_s0 n_ t23 t24 s) n_ t25
theorem state_May_s0_bind {α : Type} (t23 : List TFile) (t24 : Int) (s : TState) (kc : Int → Option α) (k0 : TFile → Option α) (k1 : Unit → Option α) (t25 : Int) : state_May_s0k n_ t23 t24 s kc k0 k1 t25 = (state_May_s0 n_ t23 t24 s t25).bind fun s_ => alt s_ kc (fun s0_ => alt s0_ k0 k1) := by
  unfold state_May_s0 state_May_s0k; simp only [bind_cond, Option.bind_assoc, alt_bind, Option.bind_some, Option.bind_none, alt_inl, alt_inr]
@[reducible] def state_May_k {α : Type} (k0 : Bool → Option α) (s : TState) : Option α :=
  bif ((s.Files.length : Int) != 6) then k0 false
  else bif ((s.Marks.length : Int) != 3) then k0 false
    else bif (!(state_number s.Epoch)) then k0 false
      else ((state_May_l0 n_ s.Files (s.Files.length : Int) s 0)).bind fun r_1 =>
        alt r_1 (fun a_2 =>
          k0 false) (fun b_3 =>
          ((slices_ContainsFunc_Mark n_ s.Marks)).bind fun r_4 =>
          k0 (!r_4))
def state_May (s : TState) : Option Bool := state_May_k n_ (fun x => some x) s
theorem state_May_bind {α : Type} (k0 : Bool → Option α) (s : TState) : state_May_k n_ k0 s = (state_May n_ s).bind k0 := by
  unfold state_May state_May_k; simp only [bind_cond, Option.bind_assoc, alt_bind, Option.bind_some, Option.bind_none, alt_inl, alt_inr]

/-! tenancy/bits.Put -/
@[reducible] def bits_Put_s0k {α : Type} (v : Int) (kc : (Int × List UInt8) → Option α) (k0 : (List UInt8) → Option α) (n : Int) (b : List UInt8) : Option α :=
  bif (decide (n ≥ 0)) then (bif (decide ((wi64 (8 * n)) < 0)) then none
    else bif (decide ((b.length + 1) ≤ lim)) then kc ((wi64 (n - 1)), (b ++ [(b8 (wu8 (shrI .i64 v (wi64 (8 * n)))))]))
      else none)
  else k0 b
def bits_Put_s0 (v : Int) (v_ : Int × List UInt8) : Option ((Int × List UInt8) ⊕ (List UInt8)) := bits_Put_s0k v (fun x => some (.inl x)) (fun x => some (.inr x)) v_.1 v_.2
def bits_Put_l0 (v : Int) (n : Int) (b : List UInt8) : Option (List UInt8) := iter (bits_Put_s0 v) n_ (n, b)
theorem bits_Put_s0_bind {α : Type} (v : Int) (kc : (Int × List UInt8) → Option α) (k0 : (List UInt8) → Option α) (n : Int) (b : List UInt8) : bits_Put_s0k v kc k0 n b = (bits_Put_s0 v (n, b)).bind fun s_ => alt s_ kc k0 := by
  unfold bits_Put_s0 bits_Put_s0k; simp only [bind_cond, Option.bind_assoc, alt_bind, Option.bind_some, Option.bind_none, alt_inl, alt_inr]
@[reducible] def bits_Put_k {α : Type} (k0 : (List UInt8) → Option α) (b : List UInt8) (v : Int) (n : Int) : Option α :=
  bif (decide (n < 1)) then k0 b
  else bif (decide (n > 8)) then k0 b
    else ((bits_Put_l0 n_ v (wi64 (n - 1)) b)).bind fun r_1 =>
      k0 r_1
def bits_Put (b : List UInt8) (v : Int) (n : Int) : Option (List UInt8) := bits_Put_k n_ (fun x => some x) b v n
theorem bits_Put_bind {α : Type} (k0 : (List UInt8) → Option α) (b : List UInt8) (v : Int) (n : Int) : bits_Put_k n_ k0 b v n = (bits_Put n_ b v n).bind k0 := by
  unfold bits_Put bits_Put_k; simp only [bind_cond, Option.bind_assoc, alt_bind, Option.bind_some, Option.bind_none, alt_inl, alt_inr]

/-! tenancy/bits.Text -/
@[reducible] def bits_Text_k {α : Type} (k0 : (List UInt8) → Option α) (b : List UInt8) (s : List UInt8) : Option α :=
  bif (decide ((s.length : Int) > 255)) then k0 b
  else bif (decide ((b.length + 1) ≤ lim)) then (bif (decide (((b ++ [(b8 (wu8 (s.length : Int)))]).length + s.length) ≤ lim)) then k0 ((b ++ [(b8 (wu8 (s.length : Int)))]) ++ s)
      else none)
    else none
def bits_Text (b : List UInt8) (s : List UInt8) : Option (List UInt8) := bits_Text_k (fun x => some x) b s
theorem bits_Text_bind {α : Type} (k0 : (List UInt8) → Option α) (b : List UInt8) (s : List UInt8) : bits_Text_k k0 b s = (bits_Text b s).bind k0 := by
  unfold bits_Text bits_Text_k; simp only [bind_cond, Option.bind_assoc, alt_bind, Option.bind_some, Option.bind_none, alt_inl, alt_inr]

/-! tenancy/image.padded -/
@[reducible] def image_padded_k {α : Type} (k0 : (List UInt8) → Option α) (b : List UInt8) (s : List UInt8) (n : Int) : Option α :=
  ((bits_Text b s)).bind fun r_1 =>
  bif (natOk (wi64 ((wi64 (n - 1)) - (s.length : Int)))) then (bif (decide ((r_1.length + (List.replicate (wi64 ((wi64 (n - 1)) - (s.length : Int))).toNat (0 : UInt8)).length) ≤ lim)) then k0 (r_1 ++ (List.replicate (wi64 ((wi64 (n - 1)) - (s.length : Int))).toNat (0 : UInt8)))
    else none)
  else none
def image_padded (b : List UInt8) (s : List UInt8) (n : Int) : Option (List UInt8) := image_padded_k (fun x => some x) b s n
theorem image_padded_bind {α : Type} (k0 : (List UInt8) → Option α) (b : List UInt8) (s : List UInt8) (n : Int) : image_padded_k k0 b s n = (image_padded b s n).bind k0 := by
  unfold image_padded image_padded_k; simp only [bind_cond, Option.bind_assoc, alt_bind, Option.bind_some, Option.bind_none, alt_inl, alt_inr]

/-! tenancy/image.Put -/
@[reducible] def image_Put_s0k {α : Type} (t18 : List TMark) (t19 : Int) (s : TState) (kc : (Int × List UInt8) → Option α) (k0 : (List UInt8) → Option α) (t20 : Int) (b : List UInt8) : Option α :=
  bif (decide (t20 < t19)) then (bif (inR t20 t18.length) then (((t18[t20.toNat]?)).bind fun y_1 =>
      ((bits_Put n_ b y_1.Seq 4)).bind fun r_2 =>
      ((bits_Put n_ r_2 y_1.Err 1)).bind fun r_3 =>
      ((bits_Put n_ r_3 y_1.File 1)).bind fun r_4 =>
      ((bits_Put n_ r_4 y_1.Ver 4)).bind fun r_5 =>
      kc ((wi64 (t20 + 1)), r_5))
    else none)
  else k0 b
def image_Put_s0 (t18 : List TMark) (t19 : Int) (s : TState) (v_ : Int × List UInt8) : Option ((Int × List UInt8) ⊕ (List UInt8)) := image_Put_s0k n_ t18 t19 s (fun x => some (.inl x)) (fun x => some (.inr x)) v_.1 v_.2
def image_Put_l0 (t18 : List TMark) (t19 : Int) (s : TState) (t20 : Int) (b : List UInt8) : Option (List UInt8) := iter (image_Put_s0 n_ t18 t19 s) n_ (t20, b)
theorem image_Put_s0_bind {α : Type} (t18 : List TMark) (t19 : Int) (s : TState) (kc : (Int × List UInt8) → Option α) (k0 : (List UInt8) → Option α) (t20 : Int) (b : List UInt8) : image_Put_s0k n_ t18 t19 s kc k0 t20 b = (image_Put_s0 n_ t18 t19 s (t20, b)).bind fun s_ => alt s_ kc k0 := by
  unfold image_Put_s0 image_Put_s0k; simp only [bind_cond, Option.bind_assoc, alt_bind, Option.bind_some, Option.bind_none, alt_inl, alt_inr]
@[reducible] def image_Put_s1k {α : Type} (t39 : List TFile) (t40 : Int) (o0 : TState) (kc : (Int × List UInt8) → Option α) (k0 : (List UInt8) → Option α) (t41 : Int) (b : List UInt8) : Option α :=
  bif (decide (t41 < t40)) then (bif (inR t41 t39.length) then (((t39[t41.toNat]?)).bind fun y_1 =>
      ((image_padded b y_1.Name 9)).bind fun r_2 =>
      ((bits_Put n_ r_2 y_1.Ver 4)).bind fun r_3 =>
      ((image_padded r_3 y_1.Body 25)).bind fun r_4 =>
      kc ((wi64 (t41 + 1)), r_4))
    else none)
  else k0 b
def image_Put_s1 (t39 : List TFile) (t40 : Int) (o0 : TState) (v_ : Int × List UInt8) : Option ((Int × List UInt8) ⊕ (List UInt8)) := image_Put_s1k n_ t39 t40 o0 (fun x => some (.inl x)) (fun x => some (.inr x)) v_.1 v_.2
def image_Put_l1 (t39 : List TFile) (t40 : Int) (o0 : TState) (t41 : Int) (b : List UInt8) : Option (List UInt8) := iter (image_Put_s1 n_ t39 t40 o0) n_ (t41, b)
theorem image_Put_s1_bind {α : Type} (t39 : List TFile) (t40 : Int) (o0 : TState) (kc : (Int × List UInt8) → Option α) (k0 : (List UInt8) → Option α) (t41 : Int) (b : List UInt8) : image_Put_s1k n_ t39 t40 o0 kc k0 t41 b = (image_Put_s1 n_ t39 t40 o0 (t41, b)).bind fun s_ => alt s_ kc k0 := by
  unfold image_Put_s1 image_Put_s1k; simp only [bind_cond, Option.bind_assoc, alt_bind, Option.bind_some, Option.bind_none, alt_inl, alt_inr]
@[reducible] def image_Put_k {α : Type} (k0 : (List (List UInt8)) → Option α) (s : TState) : Option α :=
  ((state_May n_ s)).bind fun r_1 =>
  bif (!r_1) then k0 ([])
  else ((bits_Put n_ [] s.Epoch 4)).bind fun r_2 =>
    ((image_Put_l0 n_ s.Marks (s.Marks.length : Int) s 0 r_2)).bind fun r_3 =>
    ((image_Put_l1 n_ s.Files (s.Files.length : Int) s 0 r_3)).bind fun r_4 =>
    bif (decide (((r_4.length : Int).tmod 32) > 0)) then (bif (natOk (wi64 (32 - ((r_4.length : Int).tmod 32)))) then (bif (decide ((r_4.length + (List.replicate (wi64 (32 - ((r_4.length : Int).tmod 32))).toNat (0 : UInt8)).length) ≤ lim)) then k0 (chunkL (r_4 ++ (List.replicate (wi64 (32 - ((r_4.length : Int).tmod 32))).toNat (0 : UInt8))))
        else none)
      else none)
    else k0 (chunkL r_4)
def image_Put (s : TState) : Option (List (List UInt8)) := image_Put_k n_ (fun x => some x) s
theorem image_Put_bind {α : Type} (k0 : (List (List UInt8)) → Option α) (s : TState) : image_Put_k n_ k0 s = (image_Put n_ s).bind k0 := by
  unfold image_Put image_Put_k; simp only [bind_cond, Option.bind_assoc, alt_bind, Option.bind_some, Option.bind_none, alt_inl, alt_inr]

/-! tenancy/bits.front -/
@[reducible] def bits_front_k {α : Type} (k0 : (List UInt8) → Option α) (k1 : Unit → Option α) (b : List UInt8) (n : Int) : Option α :=
  bif (decide ((b.length : Int) < n)) then k1 ()
  else bif (cutOk 0 n b.length) then k0 (cutL b 0 n)
    else none
def bits_front (b : List UInt8) (n : Int) : Option ((List UInt8) ⊕ Unit) := bits_front_k (fun x => some (.inl x)) (fun x => some (.inr x)) b n
theorem bits_front_bind {α : Type} (k0 : (List UInt8) → Option α) (k1 : Unit → Option α) (b : List UInt8) (n : Int) : bits_front_k k0 k1 b n = (bits_front b n).bind (fun s0_ => alt s0_ k0 k1) := by
  unfold bits_front bits_front_k; simp only [bind_cond, Option.bind_assoc, alt_bind, Option.bind_some, Option.bind_none, alt_inl, alt_inr]

/-! tenancy/bits.Take -/
@[reducible] def bits_Take_s0k {α : Type} (t16 : List UInt8) (t17 : Int) (ok : Bool) (kc : (Int × Int) → Option α) (k0 : Int → Option α) (v : Int) (t18 : Int) : Option α :=
  bif (decide (t18 < t17)) then (bif (inR t18 t16.length) then (((t16[t18.toNat]?)).bind fun y_1 =>
      kc ((bor .i64 (shlI .i64 v 8) (wi64 (i8 y_1))), (wi64 (t18 + 1))))
    else none)
  else k0 v
def bits_Take_s0 (t16 : List UInt8) (t17 : Int) (ok : Bool) (v_ : Int × Int) : Option ((Int × Int) ⊕ Int) := bits_Take_s0k t16 t17 ok (fun x => some (.inl x)) (fun x => some (.inr x)) v_.1 v_.2
def bits_Take_l0 (t16 : List UInt8) (t17 : Int) (ok : Bool) (v : Int) (t18 : Int) : Option Int := iter (bits_Take_s0 t16 t17 ok) n_ (v, t18)
theorem bits_Take_s0_bind {α : Type} (t16 : List UInt8) (t17 : Int) (ok : Bool) (kc : (Int × Int) → Option α) (k0 : Int → Option α) (v : Int) (t18 : Int) : bits_Take_s0k t16 t17 ok kc k0 v t18 = (bits_Take_s0 t16 t17 ok (v, t18)).bind fun s_ => alt s_ kc k0 := by
  unfold bits_Take_s0 bits_Take_s0k; simp only [bind_cond, Option.bind_assoc, alt_bind, Option.bind_some, Option.bind_none, alt_inl, alt_inr]
@[reducible] def bits_Take_k {α : Type} (k0 : (Int × Bool) → Option α) (b : List UInt8) (n : Int) : Option α :=
  bif (decide (n < 1)) then k0 (0, false)
  else bif (decide (n > 7)) then k0 (0, false)
    else ((bits_front b n)).bind fun r_1 =>
      alt r_1 (fun a_2 =>
        ((bits_Take_l0 n_ a_2 (a_2.length : Int) false 0 0)).bind fun r_3 =>
        k0 (r_3, true)) (fun b_4 =>
        k0 (0, false))
def bits_Take (b : List UInt8) (n : Int) : Option (Int × Bool) := bits_Take_k n_ (fun x => some x) b n
theorem bits_Take_bind {α : Type} (k0 : (Int × Bool) → Option α) (b : List UInt8) (n : Int) : bits_Take_k n_ k0 b n = (bits_Take n_ b n).bind k0 := by
  unfold bits_Take bits_Take_k; simp only [bind_cond, Option.bind_assoc, alt_bind, Option.bind_some, Option.bind_none, alt_inl, alt_inr]

/-! (*tenancy/image.reader).num -/
@[reducible] def image_reader_num_k {α : Type} (k0 : (Int × Timage_reader × List UInt8) → Option α) (k1 : Unit → Option α) (n : Int) (r : Timage_reader) : Option α :=
  ((bits_Take n_ r.b n)).bind fun r_1 =>
  bif (!r_1.2) then k1 ()
  else bif (cutOk n (r.b.length : Int) r.b.length) then k0 (r_1.1, (Timage_reader.mk (cutL r.b n (r.b.length : Int))), r.b)
    else none
def image_reader_num (n : Int) (r : Timage_reader) : Option ((Int × Timage_reader × List UInt8) ⊕ Unit) := image_reader_num_k n_ (fun x => some (.inl x)) (fun x => some (.inr x)) n r
theorem image_reader_num_bind {α : Type} (k0 : (Int × Timage_reader × List UInt8) → Option α) (k1 : Unit → Option α) (n : Int) (r : Timage_reader) : image_reader_num_k n_ k0 k1 n r = (image_reader_num n_ n r).bind (fun s0_ => alt s0_ k0 k1) := by
  unfold image_reader_num image_reader_num_k; simp only [bind_cond, Option.bind_assoc, alt_bind, Option.bind_some, Option.bind_none, alt_inl, alt_inr]

/-! (*tenancy/image.reader).num -/
@[reducible] def image_reader_num_2_k {α : Type} (k0 : (Int × Timage_reader) → Option α) (k1 : Unit → Option α) (n : Int) (r : Timage_reader) : Option α :=
  ((bits_Take n_ r.b n)).bind fun r_1 =>
  bif (!r_1.2) then k1 ()
  else bif (cutOk n (r.b.length : Int) r.b.length) then k0 (r_1.1, (Timage_reader.mk (cutL r.b n (r.b.length : Int))))
    else none
def image_reader_num_2 (n : Int) (r : Timage_reader) : Option ((Int × Timage_reader) ⊕ Unit) := image_reader_num_2_k n_ (fun x => some (.inl x)) (fun x => some (.inr x)) n r
theorem image_reader_num_2_bind {α : Type} (k0 : (Int × Timage_reader) → Option α) (k1 : Unit → Option α) (n : Int) (r : Timage_reader) : image_reader_num_2_k n_ k0 k1 n r = (image_reader_num_2 n_ n r).bind (fun s0_ => alt s0_ k0 k1) := by
  unfold image_reader_num_2 image_reader_num_2_k; simp only [bind_cond, Option.bind_assoc, alt_bind, Option.bind_some, Option.bind_none, alt_inl, alt_inr]

/-! tenancy/bits.TakeText -/
@[reducible] def bits_TakeText_k {α : Type} (k0 : (List UInt8 × Int × Bool) → Option α) (b : List UInt8) : Option α :=
  ((bits_front b 1)).bind fun r_1 =>
  alt r_1 (fun a_2 =>
    bif (inR 0 a_2.length) then (((a_2[0]?)).bind fun y_3 =>
      bif (decide ((b.length : Int) < (wi64 ((wi64 (i8 y_3)) + 1)))) then k0 ([], 0, false)
      else bif (cutOk 1 (wi64 ((wi64 (i8 y_3)) + 1)) b.length) then k0 ((cutL b 1 (wi64 ((wi64 (i8 y_3)) + 1))), (wi64 ((wi64 (i8 y_3)) + 1)), true)
        else none)
    else none) (fun b_4 =>
    k0 ([], 0, false))
def bits_TakeText (b : List UInt8) : Option (List UInt8 × Int × Bool) := bits_TakeText_k (fun x => some x) b
theorem bits_TakeText_bind {α : Type} (k0 : (List UInt8 × Int × Bool) → Option α) (b : List UInt8) : bits_TakeText_k k0 b = (bits_TakeText b).bind k0 := by
  unfold bits_TakeText bits_TakeText_k; simp only [bind_cond, Option.bind_assoc, alt_bind, Option.bind_some, Option.bind_none, alt_inl, alt_inr]

/-! (*tenancy/image.reader).text -/
@[reducible] def image_reader_text_k {α : Type} (k0 : (List UInt8 × Timage_reader) → Option α) (k1 : Unit → Option α) (n : Int) (r : Timage_reader) : Option α :=
  ((bits_TakeText r.b)).bind fun r_1 =>
  bif (!r_1.2.2) then k1 ()
  else bif (decide (r_1.2.1 > n)) then k1 ()
    else bif (decide ((r.b.length : Int) < n)) then k1 ()
      else bif (cutOk n (r.b.length : Int) r.b.length) then k0 (r_1.1, (Timage_reader.mk (cutL r.b n (r.b.length : Int))))
        else none
def image_reader_text (n : Int) (r : Timage_reader) : Option ((List UInt8 × Timage_reader) ⊕ Unit) := image_reader_text_k (fun x => some (.inl x)) (fun x => some (.inr x)) n r
theorem image_reader_text_bind {α : Type} (k0 : (List UInt8 × Timage_reader) → Option α) (k1 : Unit → Option α) (n : Int) (r : Timage_reader) : image_reader_text_k k0 k1 n r = (image_reader_text n r).bind (fun s0_ => alt s0_ k0 k1) := by
  unfold image_reader_text image_reader_text_k; simp only [bind_cond, Option.bind_assoc, alt_bind, Option.bind_some, Option.bind_none, alt_inl, alt_inr]

/-! (*tenancy/image.reader).read -/
@[reducible] def image_reader_read_s0k {α : Type} (r1 : List UInt8) (kc : (Int × Timage_reader × TState) → Option α) (k0 : (Timage_reader × TState) → Option α) (k1 : (Timage_reader × TState) → Option α) (t7 : Int) (r : Timage_reader) (s : TState) : Option α :=
  bif (decide (t7 < 3)) then (((image_reader_num_2 n_ 4 r)).bind fun r_1 =>
    alt r_1 (fun a_2 =>
      ((image_reader_num_2 n_ 1 a_2.2)).bind fun r_3 =>
      alt r_3 (fun a_4 =>
        ((image_reader_num_2 n_ 1 a_4.2)).bind fun r_5 =>
        alt r_5 (fun a_6 =>
          ((image_reader_num_2 n_ 4 a_6.2)).bind fun r_7 =>
          alt r_7 (fun a_8 =>
            bif (decide ((s.Marks.length + 1) ≤ lim)) then kc ((wi64 (t7 + 1)), a_8.2, (TState.mk [] (s.Marks ++ [(TMark.mk a_2.1 a_4.1 a_6.1 a_8.1)]) s.Epoch))
            else none) (fun b_9 =>
            k0 (a_6.2, (TState.mk [] s.Marks s.Epoch)))) (fun b_10 =>
          k0 (a_4.2, (TState.mk [] s.Marks s.Epoch)))) (fun b_11 =>
        k0 (a_2.2, (TState.mk [] s.Marks s.Epoch)))) (fun b_12 =>
      k0 (r, (TState.mk [] s.Marks s.Epoch))))
  else k1 (r, (TState.mk [] s.Marks s.Epoch))
def image_reader_read_s0 (r1 : List UInt8) (v_ : Int × Timage_reader × TState) : Option ((Int × Timage_reader × TState) ⊕ ((Timage_reader × TState) ⊕ (Timage_reader × TState))) := image_reader_read_s0k n_ r1 (fun x => some (.inl x)) (fun x => some (.inr (.inl x))) (fun x => some (.inr (.inr x))) v_.1 v_.2.1 v_.2.2
def image_reader_read_l0 (r1 : List UInt8) (t7 : Int) (r : Timage_reader) (s : TState) : Option ((Timage_reader × TState) ⊕ (Timage_reader × TState)) := iter (image_reader_read_s0 n_ r1) n_ (t7, r, s)
theorem image_reader_read_s0_bind {α : Type} (r1 : List UInt8) (kc : (Int × Timage_reader × TState) → Option α) (k0 : (Timage_reader × TState) → Option α) (k1 : (Timage_reader × TState) → Option α) (t7 : Int) (r : Timage_reader) (s : TState) : image_reader_read_s0k n_ r1 kc k0 k1 t7 r s = (image_reader_read_s0 n_ r1 (t7, r, s)).bind fun s_ => alt s_ kc (fun s0_ => alt s0_ k0 k1) := by
  unfold image_reader_read_s0 image_reader_read_s0k; simp only [bind_cond, Option.bind_assoc, alt_bind, Option.bind_some, Option.bind_none, alt_inl, alt_inr]
@[reducible] def image_reader_read_s1k {α : Type} (r1 : List UInt8) (kc : (Int × Timage_reader × TState) → Option α) (k0 : (Timage_reader × TState) → Option α) (k1 : (Timage_reader × TState × TFile) → Option α) (k2 : (Timage_reader × TState) → Option α) (t24 : Int) (r : Timage_reader) (s : TState) : Option α :=
  bif (decide (t24 < 6)) then (((image_reader_text 9 r)).bind fun r_1 =>
    alt r_1 (fun a_2 =>
      ((image_reader_num_2 n_ 4 a_2.2)).bind fun r_3 =>
      alt r_3 (fun a_4 =>
        ((image_reader_text 25 a_4.2)).bind fun r_5 =>
        alt r_5 (fun a_6 =>
          bif (decide ((s.Files.length + 1) ≤ lim)) then kc ((wi64 (t24 + 1)), a_6.2, (TState.mk (s.Files ++ [(TFile.mk a_2.1 a_4.1 a_6.1)]) s.Marks s.Epoch))
          else none) (fun b_7 =>
          k1 (a_4.2, s, (TFile.mk a_2.1 a_4.1 [])))) (fun b_8 =>
        k0 (a_2.2, s))) (fun b_9 =>
      k0 (r, s)))
  else k2 (r, s)
def image_reader_read_s1 (r1 : List UInt8) (v_ : Int × Timage_reader × TState) : Option ((Int × Timage_reader × TState) ⊕ ((Timage_reader × TState) ⊕ ((Timage_reader × TState × TFile) ⊕ (Timage_reader × TState)))) := image_reader_read_s1k n_ r1 (fun x => some (.inl x)) (fun x => some (.inr (.inl x))) (fun x => some (.inr (.inr (.inl x)))) (fun x => some (.inr (.inr (.inr x)))) v_.1 v_.2.1 v_.2.2
def image_reader_read_l1 (r1 : List UInt8) (t24 : Int) (r : Timage_reader) (s : TState) : Option ((Timage_reader × TState) ⊕ ((Timage_reader × TState × TFile) ⊕ (Timage_reader × TState))) := iter (image_reader_read_s1 n_ r1) n_ (t24, r, s)
theorem image_reader_read_s1_bind {α : Type} (r1 : List UInt8) (kc : (Int × Timage_reader × TState) → Option α) (k0 : (Timage_reader × TState) → Option α) (k1 : (Timage_reader × TState × TFile) → Option α) (k2 : (Timage_reader × TState) → Option α) (t24 : Int) (r : Timage_reader) (s : TState) : image_reader_read_s1k n_ r1 kc k0 k1 k2 t24 r s = (image_reader_read_s1 n_ r1 (t24, r, s)).bind fun s_ => alt s_ kc (fun s0_ => alt s0_ k0 (fun s1_ => alt s1_ k1 k2)) := by
  unfold image_reader_read_s1 image_reader_read_s1k; simp only [bind_cond, Option.bind_assoc, alt_bind, Option.bind_some, Option.bind_none, alt_inl, alt_inr]
@[reducible] def image_reader_read_k {α : Type} (k0 : (TState × Timage_reader × List UInt8) → Option α) (k1 : Unit → Option α) (k2 : (Timage_reader × List UInt8) → Option α) (r : Timage_reader) : Option α :=
  ((image_reader_num n_ 4 r)).bind fun r_1 =>
  alt r_1 (fun a_2 =>
    ((image_reader_read_l0 n_ a_2.2.2 0 a_2.2.1 (TState.mk [] [] a_2.1))).bind fun r_3 =>
    alt r_3 (fun a_4 =>
      k2 (a_4.1, a_2.2.2)) (fun b_5 =>
      ((image_reader_read_l1 n_ a_2.2.2 0 b_5.1 (TState.mk [] b_5.2.Marks b_5.2.Epoch))).bind fun r_6 =>
      alt r_6 (fun a_7 =>
        k2 (a_7.1, a_2.2.2)) (fun b_8 =>
        alt b_8 (fun a_9 =>
          k2 (a_9.1, a_2.2.2)) (fun b_10 =>
          k0 (b_10.2, b_10.1, a_2.2.2))))) (fun b_11 =>
    k1 ())
def image_reader_read (r : Timage_reader) : Option ((TState × Timage_reader × List UInt8) ⊕ (Unit ⊕ (Timage_reader × List UInt8))) := image_reader_read_k n_ (fun x => some (.inl x)) (fun x => some (.inr (.inl x))) (fun x => some (.inr (.inr x))) r
theorem image_reader_read_bind {α : Type} (k0 : (TState × Timage_reader × List UInt8) → Option α) (k1 : Unit → Option α) (k2 : (Timage_reader × List UInt8) → Option α) (r : Timage_reader) : image_reader_read_k n_ k0 k1 k2 r = (image_reader_read n_ r).bind (fun s0_ => alt s0_ k0 (fun s1_ => alt s1_ k1 k2)) := by
  unfold image_reader_read image_reader_read_k; simp only [bind_cond, Option.bind_assoc, alt_bind, Option.bind_some, Option.bind_none, alt_inl, alt_inr]

/-! slices.Equal[[]string,string] -/
@[reducible] def slices_Equal_string_s0k {α : Type} (s1 : List (List UInt8)) (s2 : List (List UInt8)) (t12 : Int) (kc : Int → Option α) (k0 : Unit → Option α) (k1 : Unit → Option α) (t13 : Int) : Option α :=
  bif (decide (t13 < t12)) then (bif (inR t13 s1.length) then (((s1[t13.toNat]?)).bind fun y_1 =>
      bif (inR t13 s2.length) then (((s2[t13.toNat]?)).bind fun y_2 =>
        bif (!(y_1 == y_2)) then k0 ()
        else kc (wi64 (t13 + 1)))
      else none)
    else none)
  else k1 ()
def slices_Equal_string_s0 (s1 : List (List UInt8)) (s2 : List (List UInt8)) (t12 : Int) (v_ : Int) : Option (Int ⊕ (Unit ⊕ Unit)) := slices_Equal_string_s0k s1 s2 t12 (fun x => some (.inl x)) (fun x => some (.inr (.inl x))) (fun x => some (.inr (.inr x))) v_
def slices_Equal_string_l0 (s1 : List (List UInt8)) (s2 : List (List UInt8)) (t12 : Int) (t13 : Int) : Option (Unit ⊕ Unit) := iter (slices_Equal_string_s0 s1 s2 t12) n_ t13
theorem slices_Equal_string_s0_bind {α : Type} (s1 : List (List UInt8)) (s2 : List (List UInt8)) (t12 : Int) (kc : Int → Option α) (k0 : Unit → Option α) (k1 : Unit → Option α) (t13 : Int) : slices_Equal_string_s0k s1 s2 t12 kc k0 k1 t13 = (slices_Equal_string_s0 s1 s2 t12 t13).bind fun s_ => alt s_ kc (fun s0_ => alt s0_ k0 k1) := by
  unfold slices_Equal_string_s0 slices_Equal_string_s0k; simp only [bind_cond, Option.bind_assoc, alt_bind, Option.bind_some, Option.bind_none, alt_inl, alt_inr]
@[reducible] def slices_Equal_string_k {α : Type} (k0 : Bool → Option α) (s1 : List (List UInt8)) (s2 : List (List UInt8)) : Option α :=
  bif ((s1.length : Int) != (s2.length : Int)) then k0 false
  else ((slices_Equal_string_l0 n_ s1 s2 (s1.length : Int) 0)).bind fun r_1 =>
    alt r_1 (fun a_2 =>
      k0 false) (fun b_3 =>
      k0 true)
def slices_Equal_string (s1 : List (List UInt8)) (s2 : List (List UInt8)) : Option Bool := slices_Equal_string_k n_ (fun x => some x) s1 s2
theorem slices_Equal_string_bind {α : Type} (k0 : Bool → Option α) (s1 : List (List UInt8)) (s2 : List (List UInt8)) : slices_Equal_string_k n_ k0 s1 s2 = (slices_Equal_string n_ s1 s2).bind k0 := by
  unfold slices_Equal_string slices_Equal_string_k; simp only [bind_cond, Option.bind_assoc, alt_bind, Option.bind_some, Option.bind_none, alt_inl, alt_inr]

/-! tenancy/image.Take -/
@[reducible] def image_Take_k {α : Type} (k0 : (TState × Bool) → Option α) (l : List (List UInt8)) : Option α :=
  bif (joinOk l []) then (((image_reader_read n_ (Timage_reader.mk (joinL l [])))).bind fun r_1 =>
    alt r_1 (fun a_2 =>
      ((state_May n_ a_2.1)).bind fun r_3 =>
      bif (!r_3) then k0 ((TState.mk [] [] 0), false)
      else ((image_Put n_ a_2.1)).bind fun r_4 =>
        ((slices_Equal_string n_ r_4 l)).bind fun r_5 =>
        bif (!r_5) then k0 ((TState.mk [] [] 0), false)
        else k0 (a_2.1, true)) (fun b_6 =>
      alt b_6 (fun a_7 =>
        k0 ((TState.mk [] [] 0), false)) (fun b_8 =>
        k0 ((TState.mk [] [] 0), false))))
  else none
def image_Take (l : List (List UInt8)) : Option (TState × Bool) := image_Take_k n_ (fun x => some x) l
theorem image_Take_bind {α : Type} (k0 : (TState × Bool) → Option α) (l : List (List UInt8)) : image_Take_k n_ k0 l = (image_Take n_ l).bind k0 := by
  unfold image_Take image_Take_k; simp only [bind_cond, Option.bind_assoc, alt_bind, Option.bind_some, Option.bind_none, alt_inl, alt_inr]

/-! tenancy/tenancyref7.SameMarks -/
@[reducible] def ref7_SameMarks_s0k {α : Type} (a : List TMark) (b : List TMark) (kc : Int → Option α) (k0 : Unit → Option α) (k1 : Unit → Option α) (i : Int) : Option α :=
  bif (decide (i < (a.length : Int))) then (bif (inR i a.length) then (((a[i.toNat]?)).bind fun y_1 =>
      bif (inR i b.length) then (((b[i.toNat]?)).bind fun y_2 =>
        bif (!(TMark.eqb y_1 y_2)) then k0 ()
        else kc (wi64 (i + 1)))
      else none)
    else none)
  else k1 ()
def ref7_SameMarks_s0 (a : List TMark) (b : List TMark) (v_ : Int) : Option (Int ⊕ (Unit ⊕ Unit)) := ref7_SameMarks_s0k a b (fun x => some (.inl x)) (fun x => some (.inr (.inl x))) (fun x => some (.inr (.inr x))) v_
def ref7_SameMarks_l0 (a : List TMark) (b : List TMark) (i : Int) : Option (Unit ⊕ Unit) := iter (ref7_SameMarks_s0 a b) n_ i
theorem ref7_SameMarks_s0_bind {α : Type} (a : List TMark) (b : List TMark) (kc : Int → Option α) (k0 : Unit → Option α) (k1 : Unit → Option α) (i : Int) : ref7_SameMarks_s0k a b kc k0 k1 i = (ref7_SameMarks_s0 a b i).bind fun s_ => alt s_ kc (fun s0_ => alt s0_ k0 k1) := by
  unfold ref7_SameMarks_s0 ref7_SameMarks_s0k; simp only [bind_cond, Option.bind_assoc, alt_bind, Option.bind_some, Option.bind_none, alt_inl, alt_inr]
@[reducible] def ref7_SameMarks_k {α : Type} (k0 : Bool → Option α) (a : List TMark) (b : List TMark) : Option α :=
  bif ((a.length : Int) != (b.length : Int)) then k0 false
  else ((ref7_SameMarks_l0 n_ a b 0)).bind fun r_1 =>
    alt r_1 (fun a_2 =>
      k0 false) (fun b_3 =>
      k0 true)
def ref7_SameMarks (a : List TMark) (b : List TMark) : Option Bool := ref7_SameMarks_k n_ (fun x => some x) a b
theorem ref7_SameMarks_bind {α : Type} (k0 : Bool → Option α) (a : List TMark) (b : List TMark) : ref7_SameMarks_k n_ k0 a b = (ref7_SameMarks n_ a b).bind k0 := by
  unfold ref7_SameMarks ref7_SameMarks_k; simp only [bind_cond, Option.bind_assoc, alt_bind, Option.bind_some, Option.bind_none, alt_inl, alt_inr]

/-! tenancy/tenancyref7.SameState -/
@[reducible] def ref7_SameState_s0k {α : Type} (a : TState) (b : TState) (kc : Int → Option α) (k0 : Unit → Option α) (k1 : Unit → Option α) (i : Int) : Option α :=
  bif (decide (i < (a.Files.length : Int))) then (bif (inR i a.Files.length) then (((a.Files[i.toNat]?)).bind fun y_1 =>
      bif (inR i b.Files.length) then (((b.Files[i.toNat]?)).bind fun y_2 =>
        bif (!(TFile.eqb y_1 y_2)) then k0 ()
        else kc (wi64 (i + 1)))
      else none)
    else none)
  else k1 ()
def ref7_SameState_s0 (a : TState) (b : TState) (v_ : Int) : Option (Int ⊕ (Unit ⊕ Unit)) := ref7_SameState_s0k a b (fun x => some (.inl x)) (fun x => some (.inr (.inl x))) (fun x => some (.inr (.inr x))) v_
def ref7_SameState_l0 (a : TState) (b : TState) (i : Int) : Option (Unit ⊕ Unit) := iter (ref7_SameState_s0 a b) n_ i
theorem ref7_SameState_s0_bind {α : Type} (a : TState) (b : TState) (kc : Int → Option α) (k0 : Unit → Option α) (k1 : Unit → Option α) (i : Int) : ref7_SameState_s0k a b kc k0 k1 i = (ref7_SameState_s0 a b i).bind fun s_ => alt s_ kc (fun s0_ => alt s0_ k0 k1) := by
  unfold ref7_SameState_s0 ref7_SameState_s0k; simp only [bind_cond, Option.bind_assoc, alt_bind, Option.bind_some, Option.bind_none, alt_inl, alt_inr]
@[reducible] def ref7_SameState_k {α : Type} (k0 : Bool → Option α) (a : TState) (b : TState) : Option α :=
  bif ((a.Files.length : Int) != (b.Files.length : Int)) then k0 false
  else ((ref7_SameMarks n_ a.Marks b.Marks)).bind fun r_1 =>
    bif (!r_1) then k0 false
    else bif (a.Epoch != b.Epoch) then k0 false
      else ((ref7_SameState_l0 n_ a b 0)).bind fun r_2 =>
        alt r_2 (fun a_3 =>
          k0 false) (fun b_4 =>
          k0 true)
def ref7_SameState (a : TState) (b : TState) : Option Bool := ref7_SameState_k n_ (fun x => some x) a b
theorem ref7_SameState_bind {α : Type} (k0 : Bool → Option α) (a : TState) (b : TState) : ref7_SameState_k n_ k0 a b = (ref7_SameState n_ a b).bind k0 := by
  unfold ref7_SameState ref7_SameState_k; simp only [bind_cond, Option.bind_assoc, alt_bind, Option.bind_some, Option.bind_none, alt_inl, alt_inr]

/-! tenancy/image.Diff -/
@[reducible] def image_Diff_s0k {α : Type} (a : List (List UInt8)) (t7 : List (List UInt8)) (t8 : Int) (kc : (Int × List TPut) → Option α) (k0 : (List TPut) → Option α) (t9 : Int) (l : List TPut) : Option α :=
  bif (decide (t9 < t8)) then (bif (inR t9 t7.length) then (((t7[t9.toNat]?)).bind fun y_1 =>
      bif (decide (t9 ≥ (a.length : Int))) then (bif (decide ((l.length + 1) ≤ lim)) then kc ((wi64 (t9 + 1)), (l ++ [(TPut.mk t9 y_1)]))
        else none)
      else bif (inR t9 a.length) then (((a[t9.toNat]?)).bind fun y_2 =>
          bif (!(y_2 == y_1)) then (bif (decide ((l.length + 1) ≤ lim)) then kc ((wi64 (t9 + 1)), (l ++ [(TPut.mk t9 y_1)]))
            else none)
          else kc ((wi64 (t9 + 1)), l))
        else none)
    else none)
  else k0 l
def image_Diff_s0 (a : List (List UInt8)) (t7 : List (List UInt8)) (t8 : Int) (v_ : Int × List TPut) : Option ((Int × List TPut) ⊕ (List TPut)) := image_Diff_s0k a t7 t8 (fun x => some (.inl x)) (fun x => some (.inr x)) v_.1 v_.2
def image_Diff_l0 (a : List (List UInt8)) (t7 : List (List UInt8)) (t8 : Int) (t9 : Int) (l : List TPut) : Option (List TPut) := iter (image_Diff_s0 a t7 t8) n_ (t9, l)
theorem image_Diff_s0_bind {α : Type} (a : List (List UInt8)) (t7 : List (List UInt8)) (t8 : Int) (kc : (Int × List TPut) → Option α) (k0 : (List TPut) → Option α) (t9 : Int) (l : List TPut) : image_Diff_s0k a t7 t8 kc k0 t9 l = (image_Diff_s0 a t7 t8 (t9, l)).bind fun s_ => alt s_ kc k0 := by
  unfold image_Diff_s0 image_Diff_s0k; simp only [bind_cond, Option.bind_assoc, alt_bind, Option.bind_some, Option.bind_none, alt_inl, alt_inr]
@[reducible] def image_Diff_k {α : Type} (k0 : (List TPut) → Option α) (a : List (List UInt8)) (b : List (List UInt8)) : Option α :=
  ((image_Diff_l0 n_ a b (b.length : Int) 0 [])).bind fun r_1 =>
  k0 r_1
def image_Diff (a : List (List UInt8)) (b : List (List UInt8)) : Option (List TPut) := image_Diff_k n_ (fun x => some x) a b
theorem image_Diff_bind {α : Type} (k0 : (List TPut) → Option α) (a : List (List UInt8)) (b : List (List UInt8)) : image_Diff_k n_ k0 a b = (image_Diff n_ a b).bind k0 := by
  unfold image_Diff image_Diff_k; simp only [bind_cond, Option.bind_assoc, alt_bind, Option.bind_some, Option.bind_none, alt_inl, alt_inr]

/-! tenancy/tenancylaw11.begun -/
@[reducible] def law11_begun_k {α : Type} (k0 : Bool → Option α) : Option α :=
  ((image_Put n_ (TState.mk [(TFile.mk [] 0 []), (TFile.mk [] 0 []), (TFile.mk [] 0 []), (TFile.mk [] 0 []), (TFile.mk [] 0 []), (TFile.mk [] 0 [])] [(TMark.mk 0 0 0 0), (TMark.mk 0 0 0 0), (TMark.mk 0 0 0 0)] 0))).bind fun r_1 =>
  ((image_Take n_ r_1)).bind fun r_2 =>
  ((image_Take n_ [])).bind fun r_3 =>
  bif ((r_1.length : Int) == 9) then (bif r_2.2 then (((ref7_SameState n_ r_2.1 (TState.mk [(TFile.mk [] 0 []), (TFile.mk [] 0 []), (TFile.mk [] 0 []), (TFile.mk [] 0 []), (TFile.mk [] 0 []), (TFile.mk [] 0 [])] [(TMark.mk 0 0 0 0), (TMark.mk 0 0 0 0), (TMark.mk 0 0 0 0)] 0))).bind fun r_4 =>
      bif r_4 then (bif (!r_3.2) then (((image_Diff n_ r_1 r_1)).bind fun r_5 =>
          k0 ((r_5.length : Int) == 0))
        else k0 false)
      else k0 false)
    else k0 false)
  else k0 false
def law11_begun : Option Bool := law11_begun_k n_ (fun x => some x)
theorem law11_begun_bind {α : Type} (k0 : Bool → Option α) : law11_begun_k n_ k0 = (law11_begun n_).bind k0 := by
  unfold law11_begun law11_begun_k; simp only [bind_cond, Option.bind_assoc, alt_bind, Option.bind_some, Option.bind_none, alt_inl, alt_inr]

/-! tenancy/tenancymade.Made -/
@[reducible] def made_Made_k {α : Type} (k : Ttenancymade_Picks → α) (l : List UInt8) : α :=
  k (Ttenancymade_Picks.mk l 0)
def made_Made (l : List UInt8) : Ttenancymade_Picks := made_Made_k id l
theorem made_Made_bind {α : Type} (k : Ttenancymade_Picks → α) (l : List UInt8) : made_Made_k k l = k (made_Made l) := by
  unfold made_Made made_Made_k; simp only [Bool.apply_cond k, id]

/-! (*tenancy/tenancymade.Picks).Over -/
@[reducible] def made_Picks_Over_k {α : Type} (k : Bool → α) (p : Ttenancymade_Picks) : α :=
  k (decide (p.n ≥ (p.l.length : Int)))
def made_Picks_Over (p : Ttenancymade_Picks) : Bool := made_Picks_Over_k id p
theorem made_Picks_Over_bind {α : Type} (k : Bool → α) (p : Ttenancymade_Picks) : made_Picks_Over_k k p = k (made_Picks_Over p) := by
  unfold made_Picks_Over made_Picks_Over_k; simp only [Bool.apply_cond k, id]

/-! (*tenancy/tenancymade.Picks).Num -/
@[reducible] def made_Picks_Num_k {α : Type} (k0 : (Int × Ttenancymade_Picks) → Option α) (m : Int) (p : Ttenancymade_Picks) : Option α :=
  bif (decide (p.n ≥ (p.l.length : Int))) then k0 (0, p)
  else bif (decide (m < 1)) then k0 (0, p)
    else bif (inR (wi64 ((wi64 (p.n + 1)) - 1)) p.l.length) then (((p.l[(wi64 ((wi64 (p.n + 1)) - 1)).toNat]?)).bind fun y_1 =>
        bif (m == 0) then none
        else k0 (((wi64 (i8 y_1)).tmod m), (Ttenancymade_Picks.mk p.l (wi64 (p.n + 1)))))
      else none
def made_Picks_Num (m : Int) (p : Ttenancymade_Picks) : Option (Int × Ttenancymade_Picks) := made_Picks_Num_k (fun x => some x) m p
theorem made_Picks_Num_bind {α : Type} (k0 : (Int × Ttenancymade_Picks) → Option α) (m : Int) (p : Ttenancymade_Picks) : made_Picks_Num_k k0 m p = (made_Picks_Num m p).bind k0 := by
  unfold made_Picks_Num made_Picks_Num_k; simp only [bind_cond, Option.bind_assoc, alt_bind, Option.bind_some, Option.bind_none, alt_inl, alt_inr]

/-! (*tenancy/tenancymade.Picks).Name -/
@[reducible] def made_Picks_Name_k {α : Type} (k0 : (List UInt8 × Ttenancymade_Picks) → Option α) (p : Ttenancymade_Picks) : Option α :=
  ((made_Picks_Num 10 p)).bind fun r_1 =>
  bif (inR r_1.1 10) then ((([[97], [98], [99], [110, 111, 116, 101, 115], [108, 111, 103], [120, 47, 121], [115, 101, 118, 101, 110, 55, 55], [], [97, 32, 98], [110, 105, 110, 101, 99, 104, 97, 114, 115]][r_1.1.toNat]?)).bind fun y_2 =>
    k0 (y_2, r_1.2))
  else none
def made_Picks_Name (p : Ttenancymade_Picks) : Option (List UInt8 × Ttenancymade_Picks) := made_Picks_Name_k (fun x => some x) p
theorem made_Picks_Name_bind {α : Type} (k0 : (List UInt8 × Ttenancymade_Picks) → Option α) (p : Ttenancymade_Picks) : made_Picks_Name_k k0 p = (made_Picks_Name p).bind k0 := by
  unfold made_Picks_Name made_Picks_Name_k; simp only [bind_cond, Option.bind_assoc, alt_bind, Option.bind_some, Option.bind_none, alt_inl, alt_inr]

/-! tenancy/tenancyref7.MayName -/
@[reducible] def ref7_MayName_s0k {α : Type} (s : List UInt8) (kc : Int → Option α) (k0 : Unit → Option α) (k1 : Unit → Option α) (i : Int) : Option α :=
  bif (decide (i < (s.length : Int))) then (bif (inR i s.length) then (((s[i.toNat]?)).bind fun y_1 =>
      bif (decide ((i8 y_1) < 33)) then k0 ()
      else bif (inR i s.length) then (((s[i.toNat]?)).bind fun y_2 =>
          bif (decide ((i8 y_2) > 126)) then k0 ()
          else kc (wi64 (i + 1)))
        else none)
    else none)
  else k1 ()
def ref7_MayName_s0 (s : List UInt8) (v_ : Int) : Option (Int ⊕ (Unit ⊕ Unit)) := ref7_MayName_s0k s (fun x => some (.inl x)) (fun x => some (.inr (.inl x))) (fun x => some (.inr (.inr x))) v_
def ref7_MayName_l0 (s : List UInt8) (i : Int) : Option (Unit ⊕ Unit) := iter (ref7_MayName_s0 s) n_ i
theorem ref7_MayName_s0_bind {α : Type} (s : List UInt8) (kc : Int → Option α) (k0 : Unit → Option α) (k1 : Unit → Option α) (i : Int) : ref7_MayName_s0k s kc k0 k1 i = (ref7_MayName_s0 s i).bind fun s_ => alt s_ kc (fun s0_ => alt s0_ k0 k1) := by
  unfold ref7_MayName_s0 ref7_MayName_s0k; simp only [bind_cond, Option.bind_assoc, alt_bind, Option.bind_some, Option.bind_none, alt_inl, alt_inr]
@[reducible] def ref7_MayName_k {α : Type} (k0 : Bool → Option α) (s : List UInt8) : Option α :=
  ((ref7_MayName_l0 n_ s 0)).bind fun r_1 =>
  alt r_1 (fun a_2 =>
    k0 false) (fun b_3 =>
    bif (decide ((s.length : Int) ≥ 1)) then k0 (decide ((s.length : Int) ≤ 8))
    else k0 false)
def ref7_MayName (s : List UInt8) : Option Bool := ref7_MayName_k n_ (fun x => some x) s
theorem ref7_MayName_bind {α : Type} (k0 : Bool → Option α) (s : List UInt8) : ref7_MayName_k n_ k0 s = (ref7_MayName n_ s).bind k0 := by
  unfold ref7_MayName ref7_MayName_k; simp only [bind_cond, Option.bind_assoc, alt_bind, Option.bind_some, Option.bind_none, alt_inl, alt_inr]

/-! tenancy/tenancyref7.PutMark -/
@[reducible] def ref7_PutMark_k {α : Type} (k0 : (List TMark) → Option α) (l : List TMark) (client : Int) (m : TMark) : Option α :=
  bif (decide (l.length ≤ lim)) then (bif (decide (client ≥ 1)) then (bif (decide (client ≤ (l.length : Int))) then (bif (inR (wi64 (client - 1)) l.length) then (((l[(wi64 (client - 1)).toNat]?)).bind fun y_1 =>
          bif (decide (m.Seq > y_1.Seq)) then (bif (inR (wi64 (client - 1)) l.length) then (((l[(wi64 (client - 1)).toNat]?)).bind fun y_2 =>
              k0 (l.set (wi64 (client - 1)).toNat m))
            else none)
          else k0 l)
        else none)
      else k0 l)
    else k0 l)
  else none
def ref7_PutMark (l : List TMark) (client : Int) (m : TMark) : Option (List TMark) := ref7_PutMark_k (fun x => some x) l client m
theorem ref7_PutMark_bind {α : Type} (k0 : (List TMark) → Option α) (l : List TMark) (client : Int) (m : TMark) : ref7_PutMark_k k0 l client m = (ref7_PutMark l client m).bind k0 := by
  unfold ref7_PutMark ref7_PutMark_k; simp only [bind_cond, Option.bind_assoc, alt_bind, Option.bind_some, Option.bind_none, alt_inl, alt_inr]

/-! tenancy/tenancyref7.marked -/
@[reducible] def ref7_marked_k {α : Type} (k0 : TState → Option α) (s : TState) (client : Int) (m : TMark) (at_ : Int) (f : TFile) : Option α :=
  ((ref7_PutMark s.Marks client m)).bind fun r_1 =>
  bif (decide (s.Files.length ≤ lim)) then (bif (decide (at_ > 0)) then (bif (inR (wi64 (at_ - 1)) s.Files.length) then (((s.Files[(wi64 (at_ - 1)).toNat]?)).bind fun y_2 =>
        k0 (TState.mk (s.Files.set (wi64 (at_ - 1)).toNat f) r_1 s.Epoch))
      else none)
    else k0 (TState.mk s.Files r_1 s.Epoch))
  else none
def ref7_marked (s : TState) (client : Int) (m : TMark) (at_ : Int) (f : TFile) : Option TState := ref7_marked_k (fun x => some x) s client m at_ f
theorem ref7_marked_bind {α : Type} (k0 : TState → Option α) (s : TState) (client : Int) (m : TMark) (at_ : Int) (f : TFile) : ref7_marked_k k0 s client m at_ f = (ref7_marked s client m at_ f).bind k0 := by
  unfold ref7_marked ref7_marked_k; simp only [bind_cond, Option.bind_assoc, alt_bind, Option.bind_some, Option.bind_none, alt_inl, alt_inr]

/-! tenancy/tenancyref7.Find -/
@[reducible] def ref7_Find_s0k {α : Type} (l : List TFile) (name : List UInt8) (kc : Int → Option α) (k0 : Int → Option α) (k1 : Unit → Option α) (i : Int) : Option α :=
  bif (decide (i < (l.length : Int))) then (((ref7_MayName n_ name)).bind fun r_1 =>
    bif r_1 then (bif (inR i l.length) then (((l[i.toNat]?)).bind fun y_2 =>
        bif (y_2.Name == name) then k0 (wi64 (i + 1))
        else kc (wi64 (i + 1)))
      else none)
    else k1 ())
  else k1 ()
def ref7_Find_s0 (l : List TFile) (name : List UInt8) (v_ : Int) : Option (Int ⊕ (Int ⊕ Unit)) := ref7_Find_s0k n_ l name (fun x => some (.inl x)) (fun x => some (.inr (.inl x))) (fun x => some (.inr (.inr x))) v_
def ref7_Find_l0 (l : List TFile) (name : List UInt8) (i : Int) : Option (Int ⊕ Unit) := iter (ref7_Find_s0 n_ l name) n_ i
theorem ref7_Find_s0_bind {α : Type} (l : List TFile) (name : List UInt8) (kc : Int → Option α) (k0 : Int → Option α) (k1 : Unit → Option α) (i : Int) : ref7_Find_s0k n_ l name kc k0 k1 i = (ref7_Find_s0 n_ l name i).bind fun s_ => alt s_ kc (fun s0_ => alt s0_ k0 k1) := by
  unfold ref7_Find_s0 ref7_Find_s0k; simp only [bind_cond, Option.bind_assoc, alt_bind, Option.bind_some, Option.bind_none, alt_inl, alt_inr]
@[reducible] def ref7_Find_k {α : Type} (k0 : (Int × Bool) → Option α) (l : List TFile) (name : List UInt8) : Option α :=
  ((ref7_Find_l0 n_ l name 0)).bind fun r_1 =>
  alt r_1 (fun a_2 =>
    k0 (a_2, true)) (fun b_3 =>
    k0 (0, false))
def ref7_Find (l : List TFile) (name : List UInt8) : Option (Int × Bool) := ref7_Find_k n_ (fun x => some x) l name
theorem ref7_Find_bind {α : Type} (k0 : (Int × Bool) → Option α) (l : List TFile) (name : List UInt8) : ref7_Find_k n_ k0 l name = (ref7_Find n_ l name).bind k0 := by
  unfold ref7_Find ref7_Find_k; simp only [bind_cond, Option.bind_assoc, alt_bind, Option.bind_some, Option.bind_none, alt_inl, alt_inr]

/-! tenancy/tenancyref7.Room -/
@[reducible] def ref7_Room_s0k {α : Type} (l : List TFile) (kc : Int → Option α) (k0 : Int → Option α) (k1 : Unit → Option α) (i : Int) : Option α :=
  bif (decide (i < (l.length : Int))) then (bif (inR i l.length) then (((l[i.toNat]?)).bind fun y_1 =>
      bif (y_1.Name == []) then k0 (wi64 (i + 1))
      else kc (wi64 (i + 1)))
    else none)
  else k1 ()
def ref7_Room_s0 (l : List TFile) (v_ : Int) : Option (Int ⊕ (Int ⊕ Unit)) := ref7_Room_s0k l (fun x => some (.inl x)) (fun x => some (.inr (.inl x))) (fun x => some (.inr (.inr x))) v_
def ref7_Room_l0 (l : List TFile) (i : Int) : Option (Int ⊕ Unit) := iter (ref7_Room_s0 l) n_ i
theorem ref7_Room_s0_bind {α : Type} (l : List TFile) (kc : Int → Option α) (k0 : Int → Option α) (k1 : Unit → Option α) (i : Int) : ref7_Room_s0k l kc k0 k1 i = (ref7_Room_s0 l i).bind fun s_ => alt s_ kc (fun s0_ => alt s0_ k0 k1) := by
  unfold ref7_Room_s0 ref7_Room_s0k; simp only [bind_cond, Option.bind_assoc, alt_bind, Option.bind_some, Option.bind_none, alt_inl, alt_inr]
@[reducible] def ref7_Room_k {α : Type} (k0 : (Int × Bool) → Option α) (l : List TFile) : Option α :=
  ((ref7_Room_l0 n_ l 0)).bind fun r_1 =>
  alt r_1 (fun a_2 =>
    k0 (a_2, true)) (fun b_3 =>
    k0 (0, false))
def ref7_Room (l : List TFile) : Option (Int × Bool) := ref7_Room_k n_ (fun x => some x) l
theorem ref7_Room_bind {α : Type} (k0 : (Int × Bool) → Option α) (l : List TFile) : ref7_Room_k n_ k0 l = (ref7_Room n_ l).bind k0 := by
  unfold ref7_Room ref7_Room_k; simp only [bind_cond, Option.bind_assoc, alt_bind, Option.bind_some, Option.bind_none, alt_inl, alt_inr]

/-! tenancy/tenancyref7.Open -/
@[reducible] def ref7_Open_k {α : Type} (k0 : (TState × TMark) → Option α) (s : TState) (client : Int) (seq : Int) (name : List UInt8) : Option α :=
  ((ref7_MayName n_ name)).bind fun r_1 =>
  bif (!r_1) then (((ref7_marked s client (TMark.mk seq 1 0 0) 0 (TFile.mk [] 0 []))).bind fun r_2 =>
    k0 (r_2, (TMark.mk seq 1 0 0)))
  else ((ref7_Find n_ s.Files name)).bind fun r_3 =>
    bif r_3.2 then (bif (inR (wi64 (r_3.1 - 1)) s.Files.length) then (((s.Files[(wi64 (r_3.1 - 1)).toNat]?)).bind fun y_4 =>
        ((ref7_marked s client (TMark.mk seq 0 r_3.1 y_4.Ver) 0 (TFile.mk [] 0 []))).bind fun r_5 =>
        k0 (r_5, (TMark.mk seq 0 r_3.1 y_4.Ver)))
      else none)
    else ((ref7_Room n_ s.Files)).bind fun r_6 =>
      bif (!r_6.2) then (((ref7_marked s client (TMark.mk seq 3 0 0) 0 (TFile.mk [] 0 []))).bind fun r_7 =>
        k0 (r_7, (TMark.mk seq 3 0 0)))
      else ((ref7_marked s client (TMark.mk seq 0 r_6.1 1) r_6.1 (TFile.mk name 1 []))).bind fun r_8 =>
        k0 (r_8, (TMark.mk seq 0 r_6.1 1))
def ref7_Open (s : TState) (client : Int) (seq : Int) (name : List UInt8) : Option (TState × TMark) := ref7_Open_k n_ (fun x => some x) s client seq name
theorem ref7_Open_bind {α : Type} (k0 : (TState × TMark) → Option α) (s : TState) (client : Int) (seq : Int) (name : List UInt8) : ref7_Open_k n_ k0 s client seq name = (ref7_Open n_ s client seq name).bind k0 := by
  unfold ref7_Open ref7_Open_k; simp only [bind_cond, Option.bind_assoc, alt_bind, Option.bind_some, Option.bind_none, alt_inl, alt_inr]

/-! tenancy/tenancyref7.Boot -/
@[reducible] def ref7_Boot_k {α : Type} (k : TState → α) (s : TState) : α :=
  k (TState.mk s.Files s.Marks (imin (wi64 (s.Epoch + 1)) 1073741824))
def ref7_Boot (s : TState) : TState := ref7_Boot_k id s
theorem ref7_Boot_bind {α : Type} (k : TState → α) (s : TState) : ref7_Boot_k k s = k (ref7_Boot s) := by
  unfold ref7_Boot ref7_Boot_k; simp only [Bool.apply_cond k, id]

/-! (*tenancy/tenancymade.Picks).Write -/
@[reducible] def made_Picks_Write_k {α : Type} (k0 : (TWrite × Ttenancymade_Picks) → Option α) (p : Ttenancymade_Picks) : Option α :=
  ((made_Picks_Num 10 p)).bind fun r_1 =>
  ((made_Picks_Num 6 r_1.2)).bind fun r_2 =>
  bif (inR r_2.1 6) then ((([[120], [121, 122], [104, 101, 108, 108, 111], [48], [97, 98, 0, 99, 100], [102, 111, 117, 114, 116, 101, 101, 110, 32, 98, 121, 116, 101, 115]][r_2.1.toNat]?)).bind fun y_3 =>
    k0 ((TWrite.mk r_1.1 y_3), r_2.2))
  else none
def made_Picks_Write (p : Ttenancymade_Picks) : Option (TWrite × Ttenancymade_Picks) := made_Picks_Write_k (fun x => some x) p
theorem made_Picks_Write_bind {α : Type} (k0 : (TWrite × Ttenancymade_Picks) → Option α) (p : Ttenancymade_Picks) : made_Picks_Write_k k0 p = (made_Picks_Write p).bind k0 := by
  unfold made_Picks_Write made_Picks_Write_k; simp only [bind_cond, Option.bind_assoc, alt_bind, Option.bind_some, Option.bind_none, alt_inl, alt_inr]

/-! (*tenancy/tenancymade.Picks).Writes -/
@[reducible] def made_Picks_Writes_s0k {α : Type} (kc : (Int × Ttenancymade_Picks × List TWrite) → Option α) (k0 : (Ttenancymade_Picks × List TWrite) → Option α) (i : Int) (p : Ttenancymade_Picks) (l : List TWrite) : Option α :=
  bif (decide (i > 0)) then (((made_Picks_Write p)).bind fun r_1 =>
    bif (decide ((l.length + 1) ≤ lim)) then kc ((wi64 (i - 1)), r_1.2, (l ++ [r_1.1]))
    else none)
  else k0 (p, l)
def made_Picks_Writes_s0 (v_ : Int × Ttenancymade_Picks × List TWrite) : Option ((Int × Ttenancymade_Picks × List TWrite) ⊕ (Ttenancymade_Picks × List TWrite)) := made_Picks_Writes_s0k (fun x => some (.inl x)) (fun x => some (.inr x)) v_.1 v_.2.1 v_.2.2
def made_Picks_Writes_l0 (i : Int) (p : Ttenancymade_Picks) (l : List TWrite) : Option (Ttenancymade_Picks × List TWrite) := iter (made_Picks_Writes_s0) n_ (i, p, l)
theorem made_Picks_Writes_s0_bind {α : Type} (kc : (Int × Ttenancymade_Picks × List TWrite) → Option α) (k0 : (Ttenancymade_Picks × List TWrite) → Option α) (i : Int) (p : Ttenancymade_Picks) (l : List TWrite) : made_Picks_Writes_s0k kc k0 i p l = (made_Picks_Writes_s0 (i, p, l)).bind fun s_ => alt s_ kc k0 := by
  unfold made_Picks_Writes_s0 made_Picks_Writes_s0k; simp only [bind_cond, Option.bind_assoc, alt_bind, Option.bind_some, Option.bind_none, alt_inl, alt_inr]
@[reducible] def made_Picks_Writes_k {α : Type} (k0 : (Ttenancymade_Picks × List TWrite) → Option α) (most : Int) (p : Ttenancymade_Picks) : Option α :=
  ((made_Picks_Num (wi64 (most + 1)) p)).bind fun r_1 =>
  ((made_Picks_Writes_l0 n_ r_1.1 r_1.2 [])).bind fun r_2 =>
  k0 (r_2.1, r_2.2)
def made_Picks_Writes (most : Int) (p : Ttenancymade_Picks) : Option (Ttenancymade_Picks × List TWrite) := made_Picks_Writes_k n_ (fun x => some x) most p
theorem made_Picks_Writes_bind {α : Type} (k0 : (Ttenancymade_Picks × List TWrite) → Option α) (most : Int) (p : Ttenancymade_Picks) : made_Picks_Writes_k n_ k0 most p = (made_Picks_Writes n_ most p).bind k0 := by
  unfold made_Picks_Writes made_Picks_Writes_k; simp only [bind_cond, Option.bind_assoc, alt_bind, Option.bind_some, Option.bind_none, alt_inl, alt_inr]

/-! tenancy/tenancyref7.Is -/
@[reducible] def ref7_Is_k {α : Type} (k0 : Bool → Option α) (s : TState) (file : Int) : Option α :=
  bif (decide (file ≥ 1)) then (bif (decide (file ≤ (s.Files.length : Int))) then (bif (inR (wi64 (file - 1)) s.Files.length) then (((s.Files[(wi64 (file - 1)).toNat]?)).bind fun y_1 =>
        k0 (!(y_1.Name == [])))
      else none)
    else k0 false)
  else k0 false
def ref7_Is (s : TState) (file : Int) : Option Bool := ref7_Is_k (fun x => some x) s file
theorem ref7_Is_bind {α : Type} (k0 : Bool → Option α) (s : TState) (file : Int) : ref7_Is_k k0 s file = (ref7_Is s file).bind k0 := by
  unfold ref7_Is ref7_Is_k; simp only [bind_cond, Option.bind_assoc, alt_bind, Option.bind_some, Option.bind_none, alt_inl, alt_inr]

/-! tenancy/tenancyref7.MayWrite -/
@[reducible] def ref7_MayWrite_k {α : Type} (k : Bool → α) (w : TWrite) : α :=
  bif (decide (w.Off ≥ 0)) then (bif (decide (w.Off < 24)) then (bif (decide ((w.B.length : Int) ≥ 1)) then k (decide ((w.B.length : Int) ≤ (wi64 (24 - w.Off))))
      else k false)
    else k false)
  else k false
def ref7_MayWrite (w : TWrite) : Bool := ref7_MayWrite_k id w
theorem ref7_MayWrite_bind {α : Type} (k : Bool → α) (w : TWrite) : ref7_MayWrite_k k w = k (ref7_MayWrite w) := by
  unfold ref7_MayWrite ref7_MayWrite_k; simp only [Bool.apply_cond k, id]

/-! tenancy/tenancyref7.PutWrite -/
@[reducible] def ref7_PutWrite_s0k {α : Type} (i : Int) (w : TWrite) (kc : (List UInt8) → Option α) (k0 : (List UInt8) → Option α) (b : List UInt8) : Option α :=
  bif (decide ((b.length : Int) ≤ (wi64 (w.Off + i)))) then (bif (decide ((b.length + 1) ≤ lim)) then kc (b ++ [0])
    else none)
  else k0 b
def ref7_PutWrite_s0 (i : Int) (w : TWrite) (v_ : List UInt8) : Option ((List UInt8) ⊕ (List UInt8)) := ref7_PutWrite_s0k i w (fun x => some (.inl x)) (fun x => some (.inr x)) v_
def ref7_PutWrite_l0 (i : Int) (w : TWrite) (b : List UInt8) : Option (List UInt8) := iter (ref7_PutWrite_s0 i w) n_ b
theorem ref7_PutWrite_s0_bind {α : Type} (i : Int) (w : TWrite) (kc : (List UInt8) → Option α) (k0 : (List UInt8) → Option α) (b : List UInt8) : ref7_PutWrite_s0k i w kc k0 b = (ref7_PutWrite_s0 i w b).bind fun s_ => alt s_ kc k0 := by
  unfold ref7_PutWrite_s0 ref7_PutWrite_s0k; simp only [bind_cond, Option.bind_assoc, alt_bind, Option.bind_some, Option.bind_none, alt_inl, alt_inr]
@[reducible] def ref7_PutWrite_s1k {α : Type} (w : TWrite) (kc : (Int × List UInt8) → Option α) (k0 : (List UInt8) → Option α) (i : Int) (b : List UInt8) : Option α :=
  bif (decide (i < (w.B.length : Int))) then (((ref7_PutWrite_l0 n_ i w b)).bind fun r_1 =>
    bif (inR i w.B.length) then (((w.B[i.toNat]?)).bind fun y_2 =>
      bif (inR (wi64 (w.Off + i)) r_1.length) then (((r_1[(wi64 (w.Off + i)).toNat]?)).bind fun y_3 =>
        kc ((wi64 (i + 1)), (r_1.set (wi64 (w.Off + i)).toNat y_2)))
      else none)
    else none)
  else k0 b
def ref7_PutWrite_s1 (w : TWrite) (v_ : Int × List UInt8) : Option ((Int × List UInt8) ⊕ (List UInt8)) := ref7_PutWrite_s1k n_ w (fun x => some (.inl x)) (fun x => some (.inr x)) v_.1 v_.2
def ref7_PutWrite_l1 (w : TWrite) (i : Int) (b : List UInt8) : Option (List UInt8) := iter (ref7_PutWrite_s1 n_ w) n_ (i, b)
theorem ref7_PutWrite_s1_bind {α : Type} (w : TWrite) (kc : (Int × List UInt8) → Option α) (k0 : (List UInt8) → Option α) (i : Int) (b : List UInt8) : ref7_PutWrite_s1k n_ w kc k0 i b = (ref7_PutWrite_s1 n_ w (i, b)).bind fun s_ => alt s_ kc k0 := by
  unfold ref7_PutWrite_s1 ref7_PutWrite_s1k; simp only [bind_cond, Option.bind_assoc, alt_bind, Option.bind_some, Option.bind_none, alt_inl, alt_inr]
@[reducible] def ref7_PutWrite_k {α : Type} (k0 : (List UInt8) → Option α) (body : List UInt8) (w : TWrite) : Option α :=
  bif (!(ref7_MayWrite w)) then k0 body
  else ((ref7_PutWrite_l1 n_ w 0 body)).bind fun r_1 =>
    k0 r_1
def ref7_PutWrite (body : List UInt8) (w : TWrite) : Option (List UInt8) := ref7_PutWrite_k n_ (fun x => some x) body w
theorem ref7_PutWrite_bind {α : Type} (k0 : (List UInt8) → Option α) (body : List UInt8) (w : TWrite) : ref7_PutWrite_k n_ k0 body w = (ref7_PutWrite n_ body w).bind k0 := by
  unfold ref7_PutWrite ref7_PutWrite_k; simp only [bind_cond, Option.bind_assoc, alt_bind, Option.bind_some, Option.bind_none, alt_inl, alt_inr]

/-! tenancy/tenancyref7.All -/
@[reducible] def ref7_All_s0k {α : Type} (l : List TWrite) (kc : (List UInt8 × Int) → Option α) (k0 : (List UInt8) → Option α) (body : List UInt8) (i : Int) : Option α :=
  bif (decide (i < (l.length : Int))) then (bif (inR i l.length) then (((l[i.toNat]?)).bind fun y_1 =>
      ((ref7_PutWrite n_ body y_1)).bind fun r_2 =>
      kc (r_2, (wi64 (i + 1))))
    else none)
  else k0 body
def ref7_All_s0 (l : List TWrite) (v_ : List UInt8 × Int) : Option ((List UInt8 × Int) ⊕ (List UInt8)) := ref7_All_s0k n_ l (fun x => some (.inl x)) (fun x => some (.inr x)) v_.1 v_.2
def ref7_All_l0 (l : List TWrite) (body : List UInt8) (i : Int) : Option (List UInt8) := iter (ref7_All_s0 n_ l) n_ (body, i)
theorem ref7_All_s0_bind {α : Type} (l : List TWrite) (kc : (List UInt8 × Int) → Option α) (k0 : (List UInt8) → Option α) (body : List UInt8) (i : Int) : ref7_All_s0k n_ l kc k0 body i = (ref7_All_s0 n_ l (body, i)).bind fun s_ => alt s_ kc k0 := by
  unfold ref7_All_s0 ref7_All_s0k; simp only [bind_cond, Option.bind_assoc, alt_bind, Option.bind_some, Option.bind_none, alt_inl, alt_inr]
@[reducible] def ref7_All_k {α : Type} (k0 : (List UInt8) → Option α) (body : List UInt8) (l : List TWrite) : Option α :=
  ((ref7_All_l0 n_ l body 0)).bind fun r_1 =>
  k0 r_1
def ref7_All (body : List UInt8) (l : List TWrite) : Option (List UInt8) := ref7_All_k n_ (fun x => some x) body l
theorem ref7_All_bind {α : Type} (k0 : (List UInt8) → Option α) (body : List UInt8) (l : List TWrite) : ref7_All_k n_ k0 body l = (ref7_All n_ body l).bind k0 := by
  unfold ref7_All ref7_All_k; simp only [bind_cond, Option.bind_assoc, alt_bind, Option.bind_some, Option.bind_none, alt_inl, alt_inr]

/-! tenancy/tenancyref7.Flush -/
@[reducible] def ref7_Flush_s0k {α : Type} (client : Int) (file : Int) (l : List TWrite) (s : TState) (o2 : TMark) (m : TMark) (kc : (Bool × Int × TState) → Option α) (k0 : (Bool × TState) → Option α) (ok : Bool) (i : Int) (o1 : TState) : Option α :=
  bif (decide (i < (l.length : Int))) then (bif ok then (bif (inR i l.length) then (((l[i.toNat]?)).bind fun y_1 =>
        kc ((ref7_MayWrite y_1), (wi64 (i + 1)), (TState.mk [] [] o1.Epoch)))
      else none)
    else kc (false, (wi64 (i + 1)), (TState.mk [] [] o1.Epoch)))
  else k0 (ok, (TState.mk [] [] o1.Epoch))
def ref7_Flush_s0 (client : Int) (file : Int) (l : List TWrite) (s : TState) (o2 : TMark) (m : TMark) (v_ : Bool × Int × TState) : Option ((Bool × Int × TState) ⊕ (Bool × TState)) := ref7_Flush_s0k client file l s o2 m (fun x => some (.inl x)) (fun x => some (.inr x)) v_.1 v_.2.1 v_.2.2
def ref7_Flush_l0 (client : Int) (file : Int) (l : List TWrite) (s : TState) (o2 : TMark) (m : TMark) (ok : Bool) (i : Int) (o1 : TState) : Option (Bool × TState) := iter (ref7_Flush_s0 client file l s o2 m) n_ (ok, i, o1)
theorem ref7_Flush_s0_bind {α : Type} (client : Int) (file : Int) (l : List TWrite) (s : TState) (o2 : TMark) (m : TMark) (kc : (Bool × Int × TState) → Option α) (k0 : (Bool × TState) → Option α) (ok : Bool) (i : Int) (o1 : TState) : ref7_Flush_s0k client file l s o2 m kc k0 ok i o1 = (ref7_Flush_s0 client file l s o2 m (ok, i, o1)).bind fun s_ => alt s_ kc k0 := by
  unfold ref7_Flush_s0 ref7_Flush_s0k; simp only [bind_cond, Option.bind_assoc, alt_bind, Option.bind_some, Option.bind_none, alt_inl, alt_inr]
@[reducible] def ref7_Flush_k {α : Type} (k0 : (TState × TMark) → Option α) (s : TState) (client : Int) (seq : Int) (file : Int) (l : List TWrite) : Option α :=
  ((ref7_Is s file)).bind fun r_1 =>
  bif (!r_1) then (((ref7_marked s client (TMark.mk seq 2 0 0) 0 (TFile.mk [] 0 []))).bind fun r_2 =>
    k0 (r_2, (TMark.mk seq 2 0 0)))
  else bif (decide ((l.length : Int) ≥ 1)) then (((ref7_Flush_l0 n_ client file l s (TMark.mk 0 0 0 0) (TMark.mk seq 0 0 0) (decide ((l.length : Int) ≤ 5)) 0 (TState.mk [] [] 0))).bind fun r_3 =>
      bif (!r_3.1) then (((ref7_marked s client (TMark.mk seq 1 0 0) 0 (TFile.mk [] 0 []))).bind fun r_4 =>
        k0 (r_4, (TMark.mk seq 1 0 0)))
      else bif (inR (wi64 (file - 1)) s.Files.length) then (((s.Files[(wi64 (file - 1)).toNat]?)).bind fun y_5 =>
          ((ref7_All n_ y_5.Body l)).bind fun r_6 =>
          ((ref7_marked s client (TMark.mk seq 0 file (imin (wi64 (y_5.Ver + 1)) 1073741824)) file (TFile.mk y_5.Name (imin (wi64 (y_5.Ver + 1)) 1073741824) r_6))).bind fun r_7 =>
          k0 (r_7, (TMark.mk seq 0 file (imin (wi64 (y_5.Ver + 1)) 1073741824))))
        else none)
    else ((ref7_Flush_l0 n_ client file l s (TMark.mk 0 0 0 0) (TMark.mk seq 0 0 0) false 0 (TState.mk [] [] 0))).bind fun r_8 =>
      bif (!r_8.1) then (((ref7_marked s client (TMark.mk seq 1 0 0) 0 (TFile.mk [] 0 []))).bind fun r_9 =>
        k0 (r_9, (TMark.mk seq 1 0 0)))
      else bif (inR (wi64 (file - 1)) s.Files.length) then (((s.Files[(wi64 (file - 1)).toNat]?)).bind fun y_10 =>
          ((ref7_All n_ y_10.Body l)).bind fun r_11 =>
          ((ref7_marked s client (TMark.mk seq 0 file (imin (wi64 (y_10.Ver + 1)) 1073741824)) file (TFile.mk y_10.Name (imin (wi64 (y_10.Ver + 1)) 1073741824) r_11))).bind fun r_12 =>
          k0 (r_12, (TMark.mk seq 0 file (imin (wi64 (y_10.Ver + 1)) 1073741824))))
        else none
def ref7_Flush (s : TState) (client : Int) (seq : Int) (file : Int) (l : List TWrite) : Option (TState × TMark) := ref7_Flush_k n_ (fun x => some x) s client seq file l
theorem ref7_Flush_bind {α : Type} (k0 : (TState × TMark) → Option α) (s : TState) (client : Int) (seq : Int) (file : Int) (l : List TWrite) : ref7_Flush_k n_ k0 s client seq file l = (ref7_Flush n_ s client seq file l).bind k0 := by
  unfold ref7_Flush ref7_Flush_k; simp only [bind_cond, Option.bind_assoc, alt_bind, Option.bind_some, Option.bind_none, alt_inl, alt_inr]

/-! tenancy/tenancyref7.Gone -/
@[reducible] def ref7_Gone_k {α : Type} (k0 : (TState × TMark) → Option α) (s : TState) (client : Int) (seq : Int) (file : Int) : Option α :=
  ((ref7_Is s file)).bind fun r_1 =>
  bif (!r_1) then (((ref7_marked s client (TMark.mk seq 2 0 0) 0 (TFile.mk [] 0 []))).bind fun r_2 =>
    k0 (r_2, (TMark.mk seq 2 0 0)))
  else ((ref7_marked s client (TMark.mk seq 0 file 0) file (TFile.mk [] 0 []))).bind fun r_3 =>
    k0 (r_3, (TMark.mk seq 0 file 0))
def ref7_Gone (s : TState) (client : Int) (seq : Int) (file : Int) : Option (TState × TMark) := ref7_Gone_k (fun x => some x) s client seq file
theorem ref7_Gone_bind {α : Type} (k0 : (TState × TMark) → Option α) (s : TState) (client : Int) (seq : Int) (file : Int) : ref7_Gone_k k0 s client seq file = (ref7_Gone s client seq file).bind k0 := by
  unfold ref7_Gone ref7_Gone_k; simp only [bind_cond, Option.bind_assoc, alt_bind, Option.bind_some, Option.bind_none, alt_inl, alt_inr]

/-! (*tenancy/tenancymade.Picks).State -/
@[reducible] def made_Picks_State_s0k {α : Type} (most : Int) (kc : (Int × Ttenancymade_Picks × TState × TState) → Option α) (k0 : (Ttenancymade_Picks × TState × TState) → Option α) (i : Int) (p : Ttenancymade_Picks) (o1 : TState) (s : TState) : Option α :=
  bif (decide (i < most)) then (bif (!(made_Picks_Over p)) then (((made_Picks_Num 3 p)).bind fun r_1 =>
      bif (inR (wi64 ((wi64 (1 + r_1.1)) - 1)) s.Marks.length) then (((s.Marks[(wi64 ((wi64 (1 + r_1.1)) - 1)).toNat]?)).bind fun y_2 =>
        ((made_Picks_Num 3 r_1.2)).bind fun r_3 =>
        ((made_Picks_Num 6 r_3.2)).bind fun r_4 =>
        bif (r_4.1 == 0) then (((made_Picks_Name r_4.2)).bind fun r_5 =>
          ((ref7_Open n_ s (wi64 (1 + r_1.1)) (imax (wi64 (y_2.Seq + r_3.1)) 1) r_5.1)).bind fun r_6 =>
          ((made_Picks_Num 9 r_5.2)).bind fun r_7 =>
          bif (r_7.1 == 0) then kc ((wi64 (i + 1)), r_7.2, (TState.mk [] [] o1.Epoch), (ref7_Boot r_6.1))
          else kc ((wi64 (i + 1)), r_7.2, (TState.mk [] [] o1.Epoch), r_6.1))
        else bif (r_4.1 == 1) then (((made_Picks_Name r_4.2)).bind fun r_8 =>
            ((ref7_Open n_ s (wi64 (1 + r_1.1)) (imax (wi64 (y_2.Seq + r_3.1)) 1) r_8.1)).bind fun r_9 =>
            ((made_Picks_Num 9 r_8.2)).bind fun r_10 =>
            bif (r_10.1 == 0) then kc ((wi64 (i + 1)), r_10.2, (TState.mk [] [] o1.Epoch), (ref7_Boot r_9.1))
            else kc ((wi64 (i + 1)), r_10.2, (TState.mk [] [] o1.Epoch), r_9.1))
          else bif (r_4.1 == 2) then (((made_Picks_Name r_4.2)).bind fun r_11 =>
              ((ref7_Open n_ s (wi64 (1 + r_1.1)) (imax (wi64 (y_2.Seq + r_3.1)) 1) r_11.1)).bind fun r_12 =>
              ((made_Picks_Num 9 r_11.2)).bind fun r_13 =>
              bif (r_13.1 == 0) then kc ((wi64 (i + 1)), r_13.2, (TState.mk [] [] o1.Epoch), (ref7_Boot r_12.1))
              else kc ((wi64 (i + 1)), r_13.2, (TState.mk [] [] o1.Epoch), r_12.1))
            else bif (r_4.1 == 3) then (((made_Picks_Num 7 r_4.2)).bind fun r_14 =>
                ((made_Picks_Writes n_ 5 r_14.2)).bind fun r_15 =>
                ((ref7_Flush n_ s (wi64 (1 + r_1.1)) (imax (wi64 (y_2.Seq + r_3.1)) 1) (wi64 (1 + r_14.1)) r_15.2)).bind fun r_16 =>
                ((made_Picks_Num 9 r_15.1)).bind fun r_17 =>
                bif (r_17.1 == 0) then kc ((wi64 (i + 1)), r_17.2, (TState.mk [] [] o1.Epoch), (ref7_Boot r_16.1))
                else kc ((wi64 (i + 1)), r_17.2, (TState.mk [] [] o1.Epoch), r_16.1))
              else bif (r_4.1 == 4) then (((made_Picks_Num 7 r_4.2)).bind fun r_18 =>
                  ((made_Picks_Writes n_ 5 r_18.2)).bind fun r_19 =>
                  ((ref7_Flush n_ s (wi64 (1 + r_1.1)) (imax (wi64 (y_2.Seq + r_3.1)) 1) (wi64 (1 + r_18.1)) r_19.2)).bind fun r_20 =>
                  ((made_Picks_Num 9 r_19.1)).bind fun r_21 =>
                  bif (r_21.1 == 0) then kc ((wi64 (i + 1)), r_21.2, (TState.mk [] [] o1.Epoch), (ref7_Boot r_20.1))
                  else kc ((wi64 (i + 1)), r_21.2, (TState.mk [] [] o1.Epoch), r_20.1))
                else ((made_Picks_Num 7 r_4.2)).bind fun r_22 =>
                  ((ref7_Gone s (wi64 (1 + r_1.1)) (imax (wi64 (y_2.Seq + r_3.1)) 1) (wi64 (1 + r_22.1)))).bind fun r_23 =>
                  ((made_Picks_Num 9 r_22.2)).bind fun r_24 =>
                  bif (r_24.1 == 0) then kc ((wi64 (i + 1)), r_24.2, (TState.mk [] [] o1.Epoch), (ref7_Boot r_23.1))
                  else kc ((wi64 (i + 1)), r_24.2, (TState.mk [] [] o1.Epoch), r_23.1))
      else none)
    else k0 (p, (TState.mk [] [] o1.Epoch), s))
  else k0 (p, (TState.mk [] [] o1.Epoch), s)
def made_Picks_State_s0 (most : Int) (v_ : Int × Ttenancymade_Picks × TState × TState) : Option ((Int × Ttenancymade_Picks × TState × TState) ⊕ (Ttenancymade_Picks × TState × TState)) := made_Picks_State_s0k n_ most (fun x => some (.inl x)) (fun x => some (.inr x)) v_.1 v_.2.1 v_.2.2.1 v_.2.2.2
def made_Picks_State_l0 (most : Int) (i : Int) (p : Ttenancymade_Picks) (o1 : TState) (s : TState) : Option (Ttenancymade_Picks × TState × TState) := iter (made_Picks_State_s0 n_ most) n_ (i, p, o1, s)
theorem made_Picks_State_s0_bind {α : Type} (most : Int) (kc : (Int × Ttenancymade_Picks × TState × TState) → Option α) (k0 : (Ttenancymade_Picks × TState × TState) → Option α) (i : Int) (p : Ttenancymade_Picks) (o1 : TState) (s : TState) : made_Picks_State_s0k n_ most kc k0 i p o1 s = (made_Picks_State_s0 n_ most (i, p, o1, s)).bind fun s_ => alt s_ kc k0 := by
  unfold made_Picks_State_s0 made_Picks_State_s0k; simp only [bind_cond, Option.bind_assoc, alt_bind, Option.bind_some, Option.bind_none, alt_inl, alt_inr]
@[reducible] def made_Picks_State_k {α : Type} (k0 : (TState × Ttenancymade_Picks) → Option α) (most : Int) (p : Ttenancymade_Picks) : Option α :=
  ((made_Picks_State_l0 n_ most 0 p (TState.mk [] [] 0) (TState.mk [(TFile.mk [] 0 []), (TFile.mk [] 0 []), (TFile.mk [] 0 []), (TFile.mk [] 0 []), (TFile.mk [] 0 []), (TFile.mk [] 0 [])] [(TMark.mk 0 0 0 0), (TMark.mk 0 0 0 0), (TMark.mk 0 0 0 0)] 0))).bind fun r_1 =>
  k0 (r_1.2.2, r_1.1)
def made_Picks_State (most : Int) (p : Ttenancymade_Picks) : Option (TState × Ttenancymade_Picks) := made_Picks_State_k n_ (fun x => some x) most p
theorem made_Picks_State_bind {α : Type} (k0 : (TState × Ttenancymade_Picks) → Option α) (most : Int) (p : Ttenancymade_Picks) : made_Picks_State_k n_ k0 most p = (made_Picks_State n_ most p).bind k0 := by
  unfold made_Picks_State made_Picks_State_k; simp only [bind_cond, Option.bind_assoc, alt_bind, Option.bind_some, Option.bind_none, alt_inl, alt_inr]

/-! tenancy/tenancyref7.num -/
@[reducible] def ref7_num_k {α : Type} (k : Bool → α) (n : Int) : α :=
  bif (decide (n ≥ 0)) then k (decide (n ≤ 1073741824))
  else k false
def ref7_num (n : Int) : Bool := ref7_num_k id n
theorem ref7_num_bind {α : Type} (k : Bool → α) (n : Int) : ref7_num_k k n = k (ref7_num n) := by
  unfold ref7_num ref7_num_k; simp only [Bool.apply_cond k, id]

/-! tenancy/tenancyref7.MayState -/
@[reducible] def ref7_MayState_s0k {α : Type} (s : TState) (kc : Int → Option α) (k0 : TFile → Option α) (k1 : Unit → Option α) (i : Int) : Option α :=
  bif (decide (i < (s.Files.length : Int))) then (bif (inR i s.Files.length) then (((s.Files[i.toNat]?)).bind fun y_1 =>
      bif (TFile.eqb y_1 (TFile.mk [] 0 [])) then kc (wi64 (i + 1))
      else ((ref7_Find n_ s.Files y_1.Name)).bind fun r_2 =>
        ((ref7_MayName n_ y_1.Name)).bind fun r_3 =>
        bif (!r_3) then k0 y_1
        else bif (r_2.1 != (wi64 (i + 1))) then k0 y_1
          else bif (decide (y_1.Ver < 1)) then k0 y_1
            else bif (!(ref7_num y_1.Ver)) then k0 y_1
              else bif (decide ((y_1.Body.length : Int) > 24)) then k0 y_1
                else kc (wi64 (i + 1)))
    else none)
  else k1 ()
def ref7_MayState_s0 (s : TState) (v_ : Int) : Option (Int ⊕ (TFile ⊕ Unit)) := ref7_MayState_s0k n_ s (fun x => some (.inl x)) (fun x => some (.inr (.inl x))) (fun x => some (.inr (.inr x))) v_
def ref7_MayState_l0 (s : TState) (i : Int) : Option (TFile ⊕ Unit) := iter (ref7_MayState_s0 n_ s) n_ i
theorem ref7_MayState_s0_bind {α : Type} (s : TState) (kc : Int → Option α) (k0 : TFile → Option α) (k1 : Unit → Option α) (i : Int) : ref7_MayState_s0k n_ s kc k0 k1 i = (ref7_MayState_s0 n_ s i).bind fun s_ => alt s_ kc (fun s0_ => alt s0_ k0 k1) := by
  unfold ref7_MayState_s0 ref7_MayState_s0k; simp only [bind_cond, Option.bind_assoc, alt_bind, Option.bind_some, Option.bind_none, alt_inl, alt_inr]
@[reducible] def ref7_MayState_s1k {α : Type} (s : TState) (kc : Int → Option α) (k0 : TMark → Option α) (k1 : Unit → Option α) (i : Int) : Option α :=
  bif (decide (i < (s.Marks.length : Int))) then (bif (inR i s.Marks.length) then (((s.Marks[i.toNat]?)).bind fun y_1 =>
      bif (!(ref7_num y_1.Seq)) then k0 y_1
      else bif (decide (y_1.Err < 0)) then k0 y_1
        else bif (decide (y_1.Err > 3)) then k0 y_1
          else bif (decide (y_1.File < 0)) then k0 y_1
            else bif (decide (y_1.File > 6)) then k0 y_1
              else bif (!(ref7_num y_1.Ver)) then k0 y_1
                else kc (wi64 (i + 1)))
    else none)
  else k1 ()
def ref7_MayState_s1 (s : TState) (v_ : Int) : Option (Int ⊕ (TMark ⊕ Unit)) := ref7_MayState_s1k s (fun x => some (.inl x)) (fun x => some (.inr (.inl x))) (fun x => some (.inr (.inr x))) v_
def ref7_MayState_l1 (s : TState) (i : Int) : Option (TMark ⊕ Unit) := iter (ref7_MayState_s1 s) n_ i
theorem ref7_MayState_s1_bind {α : Type} (s : TState) (kc : Int → Option α) (k0 : TMark → Option α) (k1 : Unit → Option α) (i : Int) : ref7_MayState_s1k s kc k0 k1 i = (ref7_MayState_s1 s i).bind fun s_ => alt s_ kc (fun s0_ => alt s0_ k0 k1) := by
  unfold ref7_MayState_s1 ref7_MayState_s1k; simp only [bind_cond, Option.bind_assoc, alt_bind, Option.bind_some, Option.bind_none, alt_inl, alt_inr]
@[reducible] def ref7_MayState_k {α : Type} (k0 : Bool → Option α) (s : TState) : Option α :=
  bif ((s.Files.length : Int) != 6) then k0 false
  else bif ((s.Marks.length : Int) != 3) then k0 false
    else bif (!(ref7_num s.Epoch)) then k0 false
      else ((ref7_MayState_l0 n_ s 0)).bind fun r_1 =>
        alt r_1 (fun a_2 =>
          k0 false) (fun b_3 =>
          ((ref7_MayState_l1 n_ s 0)).bind fun r_4 =>
          alt r_4 (fun a_5 =>
            k0 false) (fun b_6 =>
            k0 true))
def ref7_MayState (s : TState) : Option Bool := ref7_MayState_k n_ (fun x => some x) s
theorem ref7_MayState_bind {α : Type} (k0 : Bool → Option α) (s : TState) : ref7_MayState_k n_ k0 s = (ref7_MayState n_ s).bind k0 := by
  unfold ref7_MayState ref7_MayState_k; simp only [bind_cond, Option.bind_assoc, alt_bind, Option.bind_some, Option.bind_none, alt_inl, alt_inr]

/-! tenancy/tenancyref1.Put -/
@[reducible] def ref1_Put_s0k {α : Type} (v : Int) (kc : (Int × List UInt8) → Option α) (k0 : (List UInt8) → Option α) (i : Int) (out : List UInt8) : Option α :=
  bif (decide (i ≥ 0)) then (bif (decide ((wi64 (8 * i)) < 0)) then none
    else bif (decide ((out.length + 1) ≤ lim)) then kc ((wi64 (i - 1)), (out ++ [(b8 (wu8 (shrI .i64 v (wi64 (8 * i)))))]))
      else none)
  else k0 out
def ref1_Put_s0 (v : Int) (v_ : Int × List UInt8) : Option ((Int × List UInt8) ⊕ (List UInt8)) := ref1_Put_s0k v (fun x => some (.inl x)) (fun x => some (.inr x)) v_.1 v_.2
def ref1_Put_l0 (v : Int) (i : Int) (out : List UInt8) : Option (List UInt8) := iter (ref1_Put_s0 v) n_ (i, out)
theorem ref1_Put_s0_bind {α : Type} (v : Int) (kc : (Int × List UInt8) → Option α) (k0 : (List UInt8) → Option α) (i : Int) (out : List UInt8) : ref1_Put_s0k v kc k0 i out = (ref1_Put_s0 v (i, out)).bind fun s_ => alt s_ kc k0 := by
  unfold ref1_Put_s0 ref1_Put_s0k; simp only [bind_cond, Option.bind_assoc, alt_bind, Option.bind_some, Option.bind_none, alt_inl, alt_inr]
@[reducible] def ref1_Put_k {α : Type} (k0 : (List UInt8) → Option α) (b : List UInt8) (v : Int) (n : Int) : Option α :=
  bif (decide (b.length ≤ lim)) then (bif (decide (n < 1)) then k0 b
    else bif (decide (n > 8)) then k0 b
      else ((ref1_Put_l0 n_ v (wi64 (n - 1)) b)).bind fun r_1 =>
        k0 r_1)
  else none
def ref1_Put (b : List UInt8) (v : Int) (n : Int) : Option (List UInt8) := ref1_Put_k n_ (fun x => some x) b v n
theorem ref1_Put_bind {α : Type} (k0 : (List UInt8) → Option α) (b : List UInt8) (v : Int) (n : Int) : ref1_Put_k n_ k0 b v n = (ref1_Put n_ b v n).bind k0 := by
  unfold ref1_Put ref1_Put_k; simp only [bind_cond, Option.bind_assoc, alt_bind, Option.bind_some, Option.bind_none, alt_inl, alt_inr]

/-! tenancy/tenancyref1.Text -/
@[reducible] def ref1_Text_k {α : Type} (k0 : (List UInt8) → Option α) (b : List UInt8) (s : List UInt8) : Option α :=
  bif (decide (b.length ≤ lim)) then (bif (decide ((s.length : Int) > 255)) then k0 b
    else bif (decide ((b.length + 1) ≤ lim)) then (bif (decide (((b ++ [(b8 (wu8 (s.length : Int)))]).length + s.length) ≤ lim)) then k0 ((b ++ [(b8 (wu8 (s.length : Int)))]) ++ s)
        else none)
      else none)
  else none
def ref1_Text (b : List UInt8) (s : List UInt8) : Option (List UInt8) := ref1_Text_k (fun x => some x) b s
theorem ref1_Text_bind {α : Type} (k0 : (List UInt8) → Option α) (b : List UInt8) (s : List UInt8) : ref1_Text_k k0 b s = (ref1_Text b s).bind k0 := by
  unfold ref1_Text ref1_Text_k; simp only [bind_cond, Option.bind_assoc, alt_bind, Option.bind_some, Option.bind_none, alt_inl, alt_inr]

/-! tenancy/tenancyref7.PutImage -/
@[reducible] def ref7_PutImage_s0k {α : Type} (s : TState) (kc : (Int × List UInt8) → Option α) (k0 : (List UInt8) → Option α) (i : Int) (b : List UInt8) : Option α :=
  bif (decide (i < (s.Marks.length : Int))) then (bif (inR i s.Marks.length) then (((s.Marks[i.toNat]?)).bind fun y_1 =>
      ((ref1_Put n_ b y_1.Seq 4)).bind fun r_2 =>
      ((ref1_Put n_ r_2 y_1.Err 1)).bind fun r_3 =>
      ((ref1_Put n_ r_3 y_1.File 1)).bind fun r_4 =>
      ((ref1_Put n_ r_4 y_1.Ver 4)).bind fun r_5 =>
      kc ((wi64 (i + 1)), r_5))
    else none)
  else k0 b
def ref7_PutImage_s0 (s : TState) (v_ : Int × List UInt8) : Option ((Int × List UInt8) ⊕ (List UInt8)) := ref7_PutImage_s0k n_ s (fun x => some (.inl x)) (fun x => some (.inr x)) v_.1 v_.2
def ref7_PutImage_l0 (s : TState) (i : Int) (b : List UInt8) : Option (List UInt8) := iter (ref7_PutImage_s0 n_ s) n_ (i, b)
theorem ref7_PutImage_s0_bind {α : Type} (s : TState) (kc : (Int × List UInt8) → Option α) (k0 : (List UInt8) → Option α) (i : Int) (b : List UInt8) : ref7_PutImage_s0k n_ s kc k0 i b = (ref7_PutImage_s0 n_ s (i, b)).bind fun s_ => alt s_ kc k0 := by
  unfold ref7_PutImage_s0 ref7_PutImage_s0k; simp only [bind_cond, Option.bind_assoc, alt_bind, Option.bind_some, Option.bind_none, alt_inl, alt_inr]
@[reducible] def ref7_PutImage_s1k {α : Type} (s : TState) (kc : (Int × List UInt8) → Option α) (k0 : (List UInt8) → Option α) (i : Int) (b : List UInt8) : Option α :=
  bif (decide (i < (s.Files.length : Int))) then (bif (inR i s.Files.length) then (((s.Files[i.toNat]?)).bind fun y_1 =>
      ((ref1_Text b y_1.Name)).bind fun r_2 =>
      bif (natOk (wi64 (8 - (y_1.Name.length : Int)))) then (bif (decide ((r_2.length + (List.replicate (wi64 (8 - (y_1.Name.length : Int))).toNat (0 : UInt8)).length) ≤ lim)) then (((ref1_Put n_ (r_2 ++ (List.replicate (wi64 (8 - (y_1.Name.length : Int))).toNat (0 : UInt8))) y_1.Ver 4)).bind fun r_3 =>
          ((ref1_Text r_3 y_1.Body)).bind fun r_4 =>
          bif (natOk (wi64 (24 - (y_1.Body.length : Int)))) then (bif (decide ((r_4.length + (List.replicate (wi64 (24 - (y_1.Body.length : Int))).toNat (0 : UInt8)).length) ≤ lim)) then kc ((wi64 (i + 1)), (r_4 ++ (List.replicate (wi64 (24 - (y_1.Body.length : Int))).toNat (0 : UInt8))))
            else none)
          else none)
        else none)
      else none)
    else none)
  else k0 b
def ref7_PutImage_s1 (s : TState) (v_ : Int × List UInt8) : Option ((Int × List UInt8) ⊕ (List UInt8)) := ref7_PutImage_s1k n_ s (fun x => some (.inl x)) (fun x => some (.inr x)) v_.1 v_.2
def ref7_PutImage_l1 (s : TState) (i : Int) (b : List UInt8) : Option (List UInt8) := iter (ref7_PutImage_s1 n_ s) n_ (i, b)
theorem ref7_PutImage_s1_bind {α : Type} (s : TState) (kc : (Int × List UInt8) → Option α) (k0 : (List UInt8) → Option α) (i : Int) (b : List UInt8) : ref7_PutImage_s1k n_ s kc k0 i b = (ref7_PutImage_s1 n_ s (i, b)).bind fun s_ => alt s_ kc k0 := by
  unfold ref7_PutImage_s1 ref7_PutImage_s1k; simp only [bind_cond, Option.bind_assoc, alt_bind, Option.bind_some, Option.bind_none, alt_inl, alt_inr]
@[reducible] def ref7_PutImage_s2k {α : Type} (o0 : TState) (kc : (List UInt8) → Option α) (k0 : (List UInt8) → Option α) (b : List UInt8) : Option α :=
  bif (((b.length : Int).tmod 32) != 0) then (bif (decide ((b.length + 1) ≤ lim)) then kc (b ++ [0])
    else none)
  else k0 b
def ref7_PutImage_s2 (o0 : TState) (v_ : List UInt8) : Option ((List UInt8) ⊕ (List UInt8)) := ref7_PutImage_s2k o0 (fun x => some (.inl x)) (fun x => some (.inr x)) v_
def ref7_PutImage_l2 (o0 : TState) (b : List UInt8) : Option (List UInt8) := iter (ref7_PutImage_s2 o0) n_ b
theorem ref7_PutImage_s2_bind {α : Type} (o0 : TState) (kc : (List UInt8) → Option α) (k0 : (List UInt8) → Option α) (b : List UInt8) : ref7_PutImage_s2k o0 kc k0 b = (ref7_PutImage_s2 o0 b).bind fun s_ => alt s_ kc k0 := by
  unfold ref7_PutImage_s2 ref7_PutImage_s2k; simp only [bind_cond, Option.bind_assoc, alt_bind, Option.bind_some, Option.bind_none, alt_inl, alt_inr]
@[reducible] def ref7_PutImage_s3k {α : Type} (o0 : TState) (b : List UInt8) (kc : (Int × List (List UInt8)) → Option α) (k0 : (List (List UInt8)) → Option α) (i : Int) (out : List (List UInt8)) : Option α :=
  bif (decide (i < (b.length : Int))) then (bif (cutOk i (wi64 (i + 32)) b.length) then (bif (decide ((out.length + 1) ≤ lim)) then kc ((wi64 (i + 32)), (out ++ [(cutL b i (wi64 (i + 32)))]))
      else none)
    else none)
  else k0 out
def ref7_PutImage_s3 (o0 : TState) (b : List UInt8) (v_ : Int × List (List UInt8)) : Option ((Int × List (List UInt8)) ⊕ (List (List UInt8))) := ref7_PutImage_s3k o0 b (fun x => some (.inl x)) (fun x => some (.inr x)) v_.1 v_.2
def ref7_PutImage_l3 (o0 : TState) (b : List UInt8) (i : Int) (out : List (List UInt8)) : Option (List (List UInt8)) := iter (ref7_PutImage_s3 o0 b) n_ (i, out)
theorem ref7_PutImage_s3_bind {α : Type} (o0 : TState) (b : List UInt8) (kc : (Int × List (List UInt8)) → Option α) (k0 : (List (List UInt8)) → Option α) (i : Int) (out : List (List UInt8)) : ref7_PutImage_s3k o0 b kc k0 i out = (ref7_PutImage_s3 o0 b (i, out)).bind fun s_ => alt s_ kc k0 := by
  unfold ref7_PutImage_s3 ref7_PutImage_s3k; simp only [bind_cond, Option.bind_assoc, alt_bind, Option.bind_some, Option.bind_none, alt_inl, alt_inr]
@[reducible] def ref7_PutImage_k {α : Type} (k0 : (List (List UInt8)) → Option α) (s : TState) : Option α :=
  ((ref7_MayState n_ s)).bind fun r_1 =>
  bif (!r_1) then k0 ([])
  else ((ref1_Put n_ [] s.Epoch 4)).bind fun r_2 =>
    ((ref7_PutImage_l0 n_ s 0 r_2)).bind fun r_3 =>
    ((ref7_PutImage_l1 n_ s 0 r_3)).bind fun r_4 =>
    ((ref7_PutImage_l2 n_ s r_4)).bind fun r_5 =>
    ((ref7_PutImage_l3 n_ s r_5 0 [])).bind fun r_6 =>
    k0 r_6
def ref7_PutImage (s : TState) : Option (List (List UInt8)) := ref7_PutImage_k n_ (fun x => some x) s
theorem ref7_PutImage_bind {α : Type} (k0 : (List (List UInt8)) → Option α) (s : TState) : ref7_PutImage_k n_ k0 s = (ref7_PutImage n_ s).bind k0 := by
  unfold ref7_PutImage ref7_PutImage_k; simp only [bind_cond, Option.bind_assoc, alt_bind, Option.bind_some, Option.bind_none, alt_inl, alt_inr]

/-! tenancy/tenancyref5.SameTexts -/
@[reducible] def ref5_SameTexts_s0k {α : Type} (a : List (List UInt8)) (b : List (List UInt8)) (kc : Int → Option α) (k0 : Unit → Option α) (k1 : Unit → Option α) (i : Int) : Option α :=
  bif (decide (i < (a.length : Int))) then (bif (inR i a.length) then (((a[i.toNat]?)).bind fun y_1 =>
      bif (inR i b.length) then (((b[i.toNat]?)).bind fun y_2 =>
        bif (!(y_1 == y_2)) then k0 ()
        else kc (wi64 (i + 1)))
      else none)
    else none)
  else k1 ()
def ref5_SameTexts_s0 (a : List (List UInt8)) (b : List (List UInt8)) (v_ : Int) : Option (Int ⊕ (Unit ⊕ Unit)) := ref5_SameTexts_s0k a b (fun x => some (.inl x)) (fun x => some (.inr (.inl x))) (fun x => some (.inr (.inr x))) v_
def ref5_SameTexts_l0 (a : List (List UInt8)) (b : List (List UInt8)) (i : Int) : Option (Unit ⊕ Unit) := iter (ref5_SameTexts_s0 a b) n_ i
theorem ref5_SameTexts_s0_bind {α : Type} (a : List (List UInt8)) (b : List (List UInt8)) (kc : Int → Option α) (k0 : Unit → Option α) (k1 : Unit → Option α) (i : Int) : ref5_SameTexts_s0k a b kc k0 k1 i = (ref5_SameTexts_s0 a b i).bind fun s_ => alt s_ kc (fun s0_ => alt s0_ k0 k1) := by
  unfold ref5_SameTexts_s0 ref5_SameTexts_s0k; simp only [bind_cond, Option.bind_assoc, alt_bind, Option.bind_some, Option.bind_none, alt_inl, alt_inr]
@[reducible] def ref5_SameTexts_k {α : Type} (k0 : Bool → Option α) (a : List (List UInt8)) (b : List (List UInt8)) : Option α :=
  bif ((a.length : Int) != (b.length : Int)) then k0 false
  else ((ref5_SameTexts_l0 n_ a b 0)).bind fun r_1 =>
    alt r_1 (fun a_2 =>
      k0 false) (fun b_3 =>
      k0 true)
def ref5_SameTexts (a : List (List UInt8)) (b : List (List UInt8)) : Option Bool := ref5_SameTexts_k n_ (fun x => some x) a b
theorem ref5_SameTexts_bind {α : Type} (k0 : Bool → Option α) (a : List (List UInt8)) (b : List (List UInt8)) : ref5_SameTexts_k n_ k0 a b = (ref5_SameTexts n_ a b).bind k0 := by
  unfold ref5_SameTexts ref5_SameTexts_k; simp only [bind_cond, Option.bind_assoc, alt_bind, Option.bind_some, Option.bind_none, alt_inl, alt_inr]

/-! tenancy/tenancyref7.Home -/
@[reducible] def ref7_Home_k {α : Type} (k0 : Int → Option α) : Option α :=
  ((ref7_PutImage n_ (TState.mk [(TFile.mk [] 0 []), (TFile.mk [] 0 []), (TFile.mk [] 0 []), (TFile.mk [] 0 []), (TFile.mk [] 0 []), (TFile.mk [] 0 [])] [(TMark.mk 0 0 0 0), (TMark.mk 0 0 0 0), (TMark.mk 0 0 0 0)] 0))).bind fun r_1 =>
  k0 (r_1.length : Int)
def ref7_Home : Option Int := ref7_Home_k n_ (fun x => some x)
theorem ref7_Home_bind {α : Type} (k0 : Int → Option α) : ref7_Home_k n_ k0 = (ref7_Home n_).bind k0 := by
  unfold ref7_Home ref7_Home_k; simp only [bind_cond, Option.bind_assoc, alt_bind, Option.bind_some, Option.bind_none, alt_inl, alt_inr]

/-! tenancy/tenancyref7.NewState -/
@[reducible] def ref7_NewState_2_k {α : Type} (k : Unit → α) : α :=
  k ()
def ref7_NewState_2 : Unit := ref7_NewState_2_k id
theorem ref7_NewState_2_bind {α : Type} (k : Unit → α) : ref7_NewState_2_k k = k (ref7_NewState_2) := by
  unfold ref7_NewState_2 ref7_NewState_2_k; simp only [Bool.apply_cond k, id]

/-! tenancy/tenancyref1.Take -/
@[reducible] def ref1_Take_s0k {α : Type} (b : List UInt8) (n : Int) (kc : (Int × Int) → Option α) (k0 : Int → Option α) (v : Int) (i : Int) : Option α :=
  bif (decide (i < n)) then (bif (inR i b.length) then (((b[i.toNat]?)).bind fun y_1 =>
      kc ((wi64 ((wi64 (v * 256)) + (wi64 (i8 y_1)))), (wi64 (i + 1))))
    else none)
  else k0 v
def ref1_Take_s0 (b : List UInt8) (n : Int) (v_ : Int × Int) : Option ((Int × Int) ⊕ Int) := ref1_Take_s0k b n (fun x => some (.inl x)) (fun x => some (.inr x)) v_.1 v_.2
def ref1_Take_l0 (b : List UInt8) (n : Int) (v : Int) (i : Int) : Option Int := iter (ref1_Take_s0 b n) n_ (v, i)
theorem ref1_Take_s0_bind {α : Type} (b : List UInt8) (n : Int) (kc : (Int × Int) → Option α) (k0 : Int → Option α) (v : Int) (i : Int) : ref1_Take_s0k b n kc k0 v i = (ref1_Take_s0 b n (v, i)).bind fun s_ => alt s_ kc k0 := by
  unfold ref1_Take_s0 ref1_Take_s0k; simp only [bind_cond, Option.bind_assoc, alt_bind, Option.bind_some, Option.bind_none, alt_inl, alt_inr]
@[reducible] def ref1_Take_k {α : Type} (k0 : (Int × Bool) → Option α) (b : List UInt8) (n : Int) : Option α :=
  bif (decide (n < 1)) then k0 (0, false)
  else bif (decide (n > 7)) then k0 (0, false)
    else bif (decide ((b.length : Int) < n)) then k0 (0, false)
      else ((ref1_Take_l0 n_ b n 0 0)).bind fun r_1 =>
        k0 (r_1, true)
def ref1_Take (b : List UInt8) (n : Int) : Option (Int × Bool) := ref1_Take_k n_ (fun x => some x) b n
theorem ref1_Take_bind {α : Type} (k0 : (Int × Bool) → Option α) (b : List UInt8) (n : Int) : ref1_Take_k n_ k0 b n = (ref1_Take n_ b n).bind k0 := by
  unfold ref1_Take ref1_Take_k; simp only [bind_cond, Option.bind_assoc, alt_bind, Option.bind_some, Option.bind_none, alt_inl, alt_inr]

/-! tenancy/tenancyref7.TakeImage -/
@[reducible] def ref7_TakeImage_s0k {α : Type} (l : List (List UInt8)) (kc : (List UInt8 × Int × TState) → Option α) (k0 : (List UInt8 × TState) → Option α) (all : List UInt8) (i : Int) (o0 : TState) : Option α :=
  bif (decide (i < (l.length : Int))) then (bif (inR i l.length) then (((l[i.toNat]?)).bind fun y_1 =>
      bif (decide ((all.length + y_1.length) ≤ lim)) then kc ((all ++ y_1), (wi64 (i + 1)), (TState.mk [] [] o0.Epoch))
      else none)
    else none)
  else k0 (all, (TState.mk [] [] o0.Epoch))
def ref7_TakeImage_s0 (l : List (List UInt8)) (v_ : List UInt8 × Int × TState) : Option ((List UInt8 × Int × TState) ⊕ (List UInt8 × TState)) := ref7_TakeImage_s0k l (fun x => some (.inl x)) (fun x => some (.inr x)) v_.1 v_.2.1 v_.2.2
def ref7_TakeImage_l0 (l : List (List UInt8)) (all : List UInt8) (i : Int) (o0 : TState) : Option (List UInt8 × TState) := iter (ref7_TakeImage_s0 l) n_ (all, i, o0)
theorem ref7_TakeImage_s0_bind {α : Type} (l : List (List UInt8)) (kc : (List UInt8 × Int × TState) → Option α) (k0 : (List UInt8 × TState) → Option α) (all : List UInt8) (i : Int) (o0 : TState) : ref7_TakeImage_s0k l kc k0 all i o0 = (ref7_TakeImage_s0 l (all, i, o0)).bind fun s_ => alt s_ kc k0 := by
  unfold ref7_TakeImage_s0 ref7_TakeImage_s0k; simp only [bind_cond, Option.bind_assoc, alt_bind, Option.bind_some, Option.bind_none, alt_inl, alt_inr]
@[reducible] def ref7_TakeImage_s1k {α : Type} (l : List (List UInt8)) (r1 : List UInt8) (kc : (List UInt8 × Int × TState × TState) → Option α) (k0 : (List UInt8 × TState × TState) → Option α) (b : List UInt8) (i : Int) (o0 : TState) (s : TState) : Option α :=
  bif (decide (i < 3)) then (bif (inR i s.Marks.length) then (((ref1_Take n_ b 4)).bind fun r_1 =>
      ((s.Marks[i.toNat]?)).bind fun y_2 =>
      bif (inR 4 b.length) then (((b[4]?)).bind fun y_3 =>
        (((s.Marks.set i.toNat (TMark.mk r_1.1 y_2.Err y_2.File y_2.Ver))[i.toNat]?)).bind fun y_4 =>
        bif (inR 5 b.length) then (((b[5]?)).bind fun y_5 =>
          ((((s.Marks.set i.toNat (TMark.mk r_1.1 y_2.Err y_2.File y_2.Ver)).set i.toNat (TMark.mk y_4.Seq (wi64 (i8 y_3)) y_4.File y_4.Ver))[i.toNat]?)).bind fun y_6 =>
          bif (cutOk 6 (b.length : Int) b.length) then (((ref1_Take n_ (cutL b 6 (b.length : Int)) 4)).bind fun r_7 =>
            (((((s.Marks.set i.toNat (TMark.mk r_1.1 y_2.Err y_2.File y_2.Ver)).set i.toNat (TMark.mk y_4.Seq (wi64 (i8 y_3)) y_4.File y_4.Ver)).set i.toNat (TMark.mk y_6.Seq y_6.Err (wi64 (i8 y_5)) y_6.Ver))[i.toNat]?)).bind fun y_8 =>
            bif (cutOk 10 (b.length : Int) b.length) then kc ((cutL b 10 (b.length : Int)), (wi64 (i + 1)), (TState.mk [] [] o0.Epoch), (TState.mk s.Files ((((s.Marks.set i.toNat (TMark.mk r_1.1 y_2.Err y_2.File y_2.Ver)).set i.toNat (TMark.mk y_4.Seq (wi64 (i8 y_3)) y_4.File y_4.Ver)).set i.toNat (TMark.mk y_6.Seq y_6.Err (wi64 (i8 y_5)) y_6.Ver)).set i.toNat (TMark.mk y_8.Seq y_8.Err y_8.File r_7.1)) s.Epoch))
            else none)
          else none)
        else none)
      else none)
    else none)
  else k0 (b, (TState.mk [] [] o0.Epoch), s)
def ref7_TakeImage_s1 (l : List (List UInt8)) (r1 : List UInt8) (v_ : List UInt8 × Int × TState × TState) : Option ((List UInt8 × Int × TState × TState) ⊕ (List UInt8 × TState × TState)) := ref7_TakeImage_s1k n_ l r1 (fun x => some (.inl x)) (fun x => some (.inr x)) v_.1 v_.2.1 v_.2.2.1 v_.2.2.2
def ref7_TakeImage_l1 (l : List (List UInt8)) (r1 : List UInt8) (b : List UInt8) (i : Int) (o0 : TState) (s : TState) : Option (List UInt8 × TState × TState) := iter (ref7_TakeImage_s1 n_ l r1) n_ (b, i, o0, s)
theorem ref7_TakeImage_s1_bind {α : Type} (l : List (List UInt8)) (r1 : List UInt8) (kc : (List UInt8 × Int × TState × TState) → Option α) (k0 : (List UInt8 × TState × TState) → Option α) (b : List UInt8) (i : Int) (o0 : TState) (s : TState) : ref7_TakeImage_s1k n_ l r1 kc k0 b i o0 s = (ref7_TakeImage_s1 n_ l r1 (b, i, o0, s)).bind fun s_ => alt s_ kc k0 := by
  unfold ref7_TakeImage_s1 ref7_TakeImage_s1k; simp only [bind_cond, Option.bind_assoc, alt_bind, Option.bind_some, Option.bind_none, alt_inl, alt_inr]
@[reducible] def ref7_TakeImage_s2k {α : Type} (l : List (List UInt8)) (r1 : List UInt8) (kc : (List UInt8 × Int × TState × TState) → Option α) (k0 : (TState × TState) → Option α) (b : List UInt8) (i : Int) (o0 : TState) (s : TState) : Option α :=
  bif (decide (i < 6)) then (bif (inR i s.Files.length) then (bif (inR 0 b.length) then (((b[0]?)).bind fun y_1 =>
        bif (cutOk 1 (wi64 (1 + (imin (wi64 (i8 y_1)) 8))) b.length) then (((s.Files[i.toNat]?)).bind fun y_2 =>
          bif (cutOk 9 (b.length : Int) b.length) then (((ref1_Take n_ (cutL b 9 (b.length : Int)) 4)).bind fun r_3 =>
            (((s.Files.set i.toNat (TFile.mk (cutL b 1 (wi64 (1 + (imin (wi64 (i8 y_1)) 8)))) y_2.Ver y_2.Body))[i.toNat]?)).bind fun y_4 =>
            bif (inR 13 b.length) then (((b[13]?)).bind fun y_5 =>
              bif (cutOk 14 (wi64 (14 + (imin (wi64 (i8 y_5)) 24))) b.length) then (((((s.Files.set i.toNat (TFile.mk (cutL b 1 (wi64 (1 + (imin (wi64 (i8 y_1)) 8)))) y_2.Ver y_2.Body)).set i.toNat (TFile.mk y_4.Name r_3.1 y_4.Body))[i.toNat]?)).bind fun y_6 =>
                bif (cutOk 38 (b.length : Int) b.length) then kc ((cutL b 38 (b.length : Int)), (wi64 (i + 1)), (TState.mk [] [] o0.Epoch), (TState.mk (((s.Files.set i.toNat (TFile.mk (cutL b 1 (wi64 (1 + (imin (wi64 (i8 y_1)) 8)))) y_2.Ver y_2.Body)).set i.toNat (TFile.mk y_4.Name r_3.1 y_4.Body)).set i.toNat (TFile.mk y_6.Name y_6.Ver (cutL b 14 (wi64 (14 + (imin (wi64 (i8 y_5)) 24)))))) s.Marks s.Epoch))
                else none)
              else none)
            else none)
          else none)
        else none)
      else none)
    else none)
  else k0 ((TState.mk [] [] o0.Epoch), s)
def ref7_TakeImage_s2 (l : List (List UInt8)) (r1 : List UInt8) (v_ : List UInt8 × Int × TState × TState) : Option ((List UInt8 × Int × TState × TState) ⊕ (TState × TState)) := ref7_TakeImage_s2k n_ l r1 (fun x => some (.inl x)) (fun x => some (.inr x)) v_.1 v_.2.1 v_.2.2.1 v_.2.2.2
def ref7_TakeImage_l2 (l : List (List UInt8)) (r1 : List UInt8) (b : List UInt8) (i : Int) (o0 : TState) (s : TState) : Option (TState × TState) := iter (ref7_TakeImage_s2 n_ l r1) n_ (b, i, o0, s)
theorem ref7_TakeImage_s2_bind {α : Type} (l : List (List UInt8)) (r1 : List UInt8) (kc : (List UInt8 × Int × TState × TState) → Option α) (k0 : (TState × TState) → Option α) (b : List UInt8) (i : Int) (o0 : TState) (s : TState) : ref7_TakeImage_s2k n_ l r1 kc k0 b i o0 s = (ref7_TakeImage_s2 n_ l r1 (b, i, o0, s)).bind fun s_ => alt s_ kc k0 := by
  unfold ref7_TakeImage_s2 ref7_TakeImage_s2k; simp only [bind_cond, Option.bind_assoc, alt_bind, Option.bind_some, Option.bind_none, alt_inl, alt_inr]
@[reducible] def ref7_TakeImage_k {α : Type} (k0 : (TState × Bool) → Option α) (l : List (List UInt8)) : Option α :=
  ((ref7_TakeImage_l0 n_ l [] 0 (TState.mk [] [] 0))).bind fun r_1 =>
  ((ref7_Home n_)).bind fun r_2 =>
  bif ((l.length : Int) != r_2) then k0 ((TState.mk [] [] 0), false)
  else ((ref7_Home n_)).bind fun r_3 =>
    bif ((r_1.1.length : Int) != (wi64 (r_3 * 32))) then k0 ((TState.mk [] [] 0), false)
    else ((ref1_Take n_ r_1.1 4)).bind fun r_4 =>
      bif (cutOk 4 (r_1.1.length : Int) r_1.1.length) then (((ref7_TakeImage_l1 n_ l r_1.1 (cutL r_1.1 4 (r_1.1.length : Int)) 0 (TState.mk [] [] r_1.2.Epoch) (TState.mk [(TFile.mk [] 0 []), (TFile.mk [] 0 []), (TFile.mk [] 0 []), (TFile.mk [] 0 []), (TFile.mk [] 0 []), (TFile.mk [] 0 [])] [(TMark.mk 0 0 0 0), (TMark.mk 0 0 0 0), (TMark.mk 0 0 0 0)] r_4.1))).bind fun r_5 =>
        ((ref7_TakeImage_l2 n_ l r_1.1 r_5.1 0 (TState.mk [] [] r_5.2.1.Epoch) r_5.2.2)).bind fun r_6 =>
        ((ref7_PutImage n_ r_6.2)).bind fun r_7 =>
        ((ref5_SameTexts n_ r_7 l)).bind fun r_8 =>
        bif (!r_8) then k0 ((TState.mk [] [] 0), false)
        else k0 (r_6.2, true))
      else none
def ref7_TakeImage (l : List (List UInt8)) : Option (TState × Bool) := ref7_TakeImage_k n_ (fun x => some x) l
theorem ref7_TakeImage_bind {α : Type} (k0 : (TState × Bool) → Option α) (l : List (List UInt8)) : ref7_TakeImage_k n_ k0 l = (ref7_TakeImage n_ l).bind k0 := by
  unfold ref7_TakeImage ref7_TakeImage_k; simp only [bind_cond, Option.bind_assoc, alt_bind, Option.bind_some, Option.bind_none, alt_inl, alt_inr]

/-! tenancy/tenancyref7.Diff -/
@[reducible] def ref7_Diff_s0k {α : Type} (a : List (List UInt8)) (b : List (List UInt8)) (kc : (Int × List TPut) → Option α) (k0 : (List TPut) → Option α) (i : Int) (out : List TPut) : Option α :=
  bif (decide (i < (b.length : Int))) then (bif (decide (i ≥ (a.length : Int))) then (bif (inR i b.length) then (((b[i.toNat]?)).bind fun y_1 =>
        bif (decide ((out.length + 1) ≤ lim)) then kc ((wi64 (i + 1)), (out ++ [(TPut.mk i y_1)]))
        else none)
      else none)
    else bif (inR i a.length) then (((a[i.toNat]?)).bind fun y_2 =>
        bif (inR i b.length) then (((b[i.toNat]?)).bind fun y_3 =>
          bif (!(y_2 == y_3)) then (bif (inR i b.length) then (((b[i.toNat]?)).bind fun y_4 =>
              bif (decide ((out.length + 1) ≤ lim)) then kc ((wi64 (i + 1)), (out ++ [(TPut.mk i y_4)]))
              else none)
            else none)
          else kc ((wi64 (i + 1)), out))
        else none)
      else none)
  else k0 out
def ref7_Diff_s0 (a : List (List UInt8)) (b : List (List UInt8)) (v_ : Int × List TPut) : Option ((Int × List TPut) ⊕ (List TPut)) := ref7_Diff_s0k a b (fun x => some (.inl x)) (fun x => some (.inr x)) v_.1 v_.2
def ref7_Diff_l0 (a : List (List UInt8)) (b : List (List UInt8)) (i : Int) (out : List TPut) : Option (List TPut) := iter (ref7_Diff_s0 a b) n_ (i, out)
theorem ref7_Diff_s0_bind {α : Type} (a : List (List UInt8)) (b : List (List UInt8)) (kc : (Int × List TPut) → Option α) (k0 : (List TPut) → Option α) (i : Int) (out : List TPut) : ref7_Diff_s0k a b kc k0 i out = (ref7_Diff_s0 a b (i, out)).bind fun s_ => alt s_ kc k0 := by
  unfold ref7_Diff_s0 ref7_Diff_s0k; simp only [bind_cond, Option.bind_assoc, alt_bind, Option.bind_some, Option.bind_none, alt_inl, alt_inr]
@[reducible] def ref7_Diff_k {α : Type} (k0 : (List TPut) → Option α) (a : List (List UInt8)) (b : List (List UInt8)) : Option α :=
  ((ref7_Diff_l0 n_ a b 0 [])).bind fun r_1 =>
  k0 r_1
def ref7_Diff (a : List (List UInt8)) (b : List (List UInt8)) : Option (List TPut) := ref7_Diff_k n_ (fun x => some x) a b
theorem ref7_Diff_bind {α : Type} (k0 : (List TPut) → Option α) (a : List (List UInt8)) (b : List (List UInt8)) : ref7_Diff_k n_ k0 a b = (ref7_Diff n_ a b).bind k0 := by
  unfold ref7_Diff ref7_Diff_k; simp only [bind_cond, Option.bind_assoc, alt_bind, Option.bind_some, Option.bind_none, alt_inl, alt_inr]

/-! tenancy/tenancyref5.SamePuts -/
@[reducible] def ref5_SamePuts_s0k {α : Type} (a : List TPut) (b : List TPut) (kc : Int → Option α) (k0 : Unit → Option α) (k1 : Unit → Option α) (i : Int) : Option α :=
  bif (decide (i < (a.length : Int))) then (bif (inR i a.length) then (((a[i.toNat]?)).bind fun y_1 =>
      bif (inR i b.length) then (((b[i.toNat]?)).bind fun y_2 =>
        bif (!(TPut.eqb y_1 y_2)) then k0 ()
        else kc (wi64 (i + 1)))
      else none)
    else none)
  else k1 ()
def ref5_SamePuts_s0 (a : List TPut) (b : List TPut) (v_ : Int) : Option (Int ⊕ (Unit ⊕ Unit)) := ref5_SamePuts_s0k a b (fun x => some (.inl x)) (fun x => some (.inr (.inl x))) (fun x => some (.inr (.inr x))) v_
def ref5_SamePuts_l0 (a : List TPut) (b : List TPut) (i : Int) : Option (Unit ⊕ Unit) := iter (ref5_SamePuts_s0 a b) n_ i
theorem ref5_SamePuts_s0_bind {α : Type} (a : List TPut) (b : List TPut) (kc : Int → Option α) (k0 : Unit → Option α) (k1 : Unit → Option α) (i : Int) : ref5_SamePuts_s0k a b kc k0 k1 i = (ref5_SamePuts_s0 a b i).bind fun s_ => alt s_ kc (fun s0_ => alt s0_ k0 k1) := by
  unfold ref5_SamePuts_s0 ref5_SamePuts_s0k; simp only [bind_cond, Option.bind_assoc, alt_bind, Option.bind_some, Option.bind_none, alt_inl, alt_inr]
@[reducible] def ref5_SamePuts_k {α : Type} (k0 : Bool → Option α) (a : List TPut) (b : List TPut) : Option α :=
  bif ((a.length : Int) != (b.length : Int)) then k0 false
  else ((ref5_SamePuts_l0 n_ a b 0)).bind fun r_1 =>
    alt r_1 (fun a_2 =>
      k0 false) (fun b_3 =>
      k0 true)
def ref5_SamePuts (a : List TPut) (b : List TPut) : Option Bool := ref5_SamePuts_k n_ (fun x => some x) a b
theorem ref5_SamePuts_bind {α : Type} (k0 : Bool → Option α) (a : List TPut) (b : List TPut) : ref5_SamePuts_k n_ k0 a b = (ref5_SamePuts n_ a b).bind k0 := by
  unfold ref5_SamePuts ref5_SamePuts_k; simp only [bind_cond, Option.bind_assoc, alt_bind, Option.bind_some, Option.bind_none, alt_inl, alt_inr]

/-! tenancy/tenancylaw11.ImageAll -/
@[reducible] def law11_ImageAll_s0k {α : Type} (picks : List UInt8) (at_ : UInt8) (k : UInt8) (by_ : UInt8) (wild : List (List UInt8)) (cut : UInt8) (kc : Int → Option α) (k0 : Unit → Option α) (k1 : Unit → Option α) (i : Int) : Option α :=
  bif (decide (i < (wild.length : Int))) then (bif (inR i wild.length) then (((wild[i.toNat]?)).bind fun y_1 =>
      bif (decide ((y_1.length : Int) > 40)) then k0 ()
      else kc (wi64 (i + 1)))
    else none)
  else k1 ()
def law11_ImageAll_s0 (picks : List UInt8) (at_ : UInt8) (k : UInt8) (by_ : UInt8) (wild : List (List UInt8)) (cut : UInt8) (v_ : Int) : Option (Int ⊕ (Unit ⊕ Unit)) := law11_ImageAll_s0k picks at_ k by_ wild cut (fun x => some (.inl x)) (fun x => some (.inr (.inl x))) (fun x => some (.inr (.inr x))) v_
def law11_ImageAll_l0 (picks : List UInt8) (at_ : UInt8) (k : UInt8) (by_ : UInt8) (wild : List (List UInt8)) (cut : UInt8) (i : Int) : Option (Unit ⊕ Unit) := iter (law11_ImageAll_s0 picks at_ k by_ wild cut) n_ i
theorem law11_ImageAll_s0_bind {α : Type} (picks : List UInt8) (at_ : UInt8) (k : UInt8) (by_ : UInt8) (wild : List (List UInt8)) (cut : UInt8) (kc : Int → Option α) (k0 : Unit → Option α) (k1 : Unit → Option α) (i : Int) : law11_ImageAll_s0k picks at_ k by_ wild cut kc k0 k1 i = (law11_ImageAll_s0 picks at_ k by_ wild cut i).bind fun s_ => alt s_ kc (fun s0_ => alt s0_ k0 k1) := by
  unfold law11_ImageAll_s0 law11_ImageAll_s0k; simp only [bind_cond, Option.bind_assoc, alt_bind, Option.bind_some, Option.bind_none, alt_inl, alt_inr]
@[reducible] def law11_ImageAll_s1k {α : Type} (l : List (List UInt8)) (lots : List (List (List UInt8))) (o0 : Ttenancymade_Picks) (o1 : TState) (m : List (List UInt8)) (r3 : List UInt8) (kc : Int → Option α) (k0 : (TState × TState) → Option α) (k1 : Unit → Option α) (i : Int) : Option α :=
  bif (decide (i < 4)) then (bif (inR i lots.length) then (((lots[i.toNat]?)).bind fun y_1 =>
      ((image_Take n_ y_1)).bind fun r_2 =>
      bif (inR i lots.length) then (((lots[i.toNat]?)).bind fun y_3 =>
        ((ref7_TakeImage n_ y_3)).bind fun r_4 =>
        bif (!(r_2.2 == r_4.2)) then k0 (r_2.1, r_4.1)
        else ((ref7_SameState n_ r_2.1 r_4.1)).bind fun r_5 =>
          bif (!r_5) then k0 (r_2.1, r_4.1)
          else kc (wi64 (i + 1)))
      else none)
    else none)
  else k1 ()
def law11_ImageAll_s1 (l : List (List UInt8)) (lots : List (List (List UInt8))) (o0 : Ttenancymade_Picks) (o1 : TState) (m : List (List UInt8)) (r3 : List UInt8) (v_ : Int) : Option (Int ⊕ ((TState × TState) ⊕ Unit)) := law11_ImageAll_s1k n_ l lots o0 o1 m r3 (fun x => some (.inl x)) (fun x => some (.inr (.inl x))) (fun x => some (.inr (.inr x))) v_
def law11_ImageAll_l1 (l : List (List UInt8)) (lots : List (List (List UInt8))) (o0 : Ttenancymade_Picks) (o1 : TState) (m : List (List UInt8)) (r3 : List UInt8) (i : Int) : Option ((TState × TState) ⊕ Unit) := iter (law11_ImageAll_s1 n_ l lots o0 o1 m r3) n_ i
theorem law11_ImageAll_s1_bind {α : Type} (l : List (List UInt8)) (lots : List (List (List UInt8))) (o0 : Ttenancymade_Picks) (o1 : TState) (m : List (List UInt8)) (r3 : List UInt8) (kc : Int → Option α) (k0 : (TState × TState) → Option α) (k1 : Unit → Option α) (i : Int) : law11_ImageAll_s1k n_ l lots o0 o1 m r3 kc k0 k1 i = (law11_ImageAll_s1 n_ l lots o0 o1 m r3 i).bind fun s_ => alt s_ kc (fun s0_ => alt s0_ k0 k1) := by
  unfold law11_ImageAll_s1 law11_ImageAll_s1k; simp only [bind_cond, Option.bind_assoc, alt_bind, Option.bind_some, Option.bind_none, alt_inl, alt_inr]
@[reducible] def law11_ImageAll_k {α : Type} (k0 : Bool → Option α) (picks : List UInt8) (at_ : UInt8) (k : UInt8) (by_ : UInt8) (wild : List (List UInt8)) (cut : UInt8) : Option α :=
  ((law11_begun n_)).bind fun r_1 =>
  bif (!r_1) then k0 false
  else bif (decide ((picks.length : Int) > 60)) then k0 true
    else bif (decide ((wild.length : Int) > 12)) then k0 true
      else ((law11_ImageAll_l0 n_ picks at_ k by_ wild cut 0)).bind fun r_2 =>
        alt r_2 (fun a_3 =>
          k0 true) (fun b_4 =>
          ((made_Picks_State n_ 30 (made_Made picks))).bind fun r_5 =>
          ((image_Put n_ r_5.1)).bind fun r_6 =>
          ((ref7_PutImage n_ r_5.1)).bind fun r_7 =>
          ((ref5_SameTexts n_ r_6 r_7)).bind fun r_8 =>
          bif (!r_8) then k0 false
          else bif ((r_6.length : Int) == 0) then k0 false
            else bif (decide (r_6.length ≤ lim)) then (bif ((r_6.length : Int) == 0) then none
                else bif (inR ((wi64 (i8 at_)).tmod (r_6.length : Int)) r_6.length) then (((r_6[((wi64 (i8 at_)).tmod (r_6.length : Int)).toNat]?)).bind fun y_9 =>
                    bif ((y_9.length : Int) == 0) then none
                    else bif (inR ((wi64 (i8 k)).tmod (y_9.length : Int)) y_9.length) then (((y_9[((wi64 (i8 k)).tmod (y_9.length : Int)).toNat]?)).bind fun y_10 =>
                        bif (inR ((wi64 (i8 k)).tmod (y_9.length : Int)) y_9.length) then (((y_9[((wi64 (i8 k)).tmod (y_9.length : Int)).toNat]?)).bind fun y_11 =>
                          bif (inR ((wi64 (i8 at_)).tmod (r_6.length : Int)) r_6.length) then (((r_6[((wi64 (i8 at_)).tmod (r_6.length : Int)).toNat]?)).bind fun y_12 =>
                            bif (cutOk 0 (wi64 ((r_6.length : Int) - (imin (r_6.length : Int) (wi64 (i8 (b8 ((i8 cut).tmod 3))))))) r_6.length) then (((law11_ImageAll_l1 n_ r_6 [r_6, (r_6.set ((wi64 (i8 at_)).tmod (r_6.length : Int)).toNat (y_9.set ((wi64 (i8 k)).tmod (y_9.length : Int)).toNat (b8 (bxor .u8 (i8 y_10) (i8 by_))))), wild, (cutL r_6 0 (wi64 ((r_6.length : Int) - (imin (r_6.length : Int) (wi64 (i8 (b8 ((i8 cut).tmod 3))))))))] r_5.2 r_5.1 (r_6.set ((wi64 (i8 at_)).tmod (r_6.length : Int)).toNat (y_9.set ((wi64 (i8 k)).tmod (y_9.length : Int)).toNat (b8 (bxor .u8 (i8 y_10) (i8 by_))))) (y_9.set ((wi64 (i8 k)).tmod (y_9.length : Int)).toNat (b8 (bxor .u8 (i8 y_10) (i8 by_)))) 0)).bind fun r_13 =>
                              alt r_13 (fun a_14 =>
                                k0 false) (fun b_15 =>
                                ((image_Diff n_ r_6 (r_6.set ((wi64 (i8 at_)).tmod (r_6.length : Int)).toNat (y_9.set ((wi64 (i8 k)).tmod (y_9.length : Int)).toNat (b8 (bxor .u8 (i8 y_10) (i8 by_))))))).bind fun r_16 =>
                                ((ref7_Diff n_ r_6 (r_6.set ((wi64 (i8 at_)).tmod (r_6.length : Int)).toNat (y_9.set ((wi64 (i8 k)).tmod (y_9.length : Int)).toNat (b8 (bxor .u8 (i8 y_10) (i8 by_))))))).bind fun r_17 =>
                                ((ref5_SamePuts n_ r_16 r_17)).bind fun r_18 =>
                                bif r_18 then (((image_Put n_ (TState.mk [] [] 0))).bind fun r_19 =>
                                  k0 ((r_19.length : Int) == 0))
                                else k0 false))
                            else none)
                          else none)
                        else none)
                      else none)
                  else none)
              else none)
def law11_ImageAll (picks : List UInt8) (at_ : UInt8) (k : UInt8) (by_ : UInt8) (wild : List (List UInt8)) (cut : UInt8) : Option Bool := law11_ImageAll_k n_ (fun x => some x) picks at_ k by_ wild cut
theorem law11_ImageAll_bind {α : Type} (k0 : Bool → Option α) (picks : List UInt8) (at_ : UInt8) (k : UInt8) (by_ : UInt8) (wild : List (List UInt8)) (cut : UInt8) : law11_ImageAll_k n_ k0 picks at_ k by_ wild cut = (law11_ImageAll n_ picks at_ k by_ wild cut).bind k0 := by
  unfold law11_ImageAll law11_ImageAll_k; simp only [bind_cond, Option.bind_assoc, alt_bind, Option.bind_some, Option.bind_none, alt_inl, alt_inr]

/-! tenancy/tenancylaw11.ImageBack -/
@[reducible] def law11_ImageBack_s0k {α : Type} (l : List (List UInt8)) (m : List (List UInt8)) (d : List TPut) (o0 : Ttenancymade_Picks) (o1 : Ttenancymade_Picks) (o2 : TState) (o3 : TState) (o4 : TState) (kc : (Int × List (List UInt8)) → Option α) (k0 : (List (List UInt8)) → Option α) (k1 : (List (List UInt8)) → Option α) (i : Int) (y : List (List UInt8)) : Option α :=
  bif (decide (i < (d.length : Int))) then (bif (inR i d.length) then (((d[i.toNat]?)).bind fun y_1 =>
      bif (decide (y_1.At < 0)) then k0 y
      else bif (inR i d.length) then (((d[i.toNat]?)).bind fun y_2 =>
          bif (decide (y_2.At ≥ (y.length : Int))) then k0 y
          else bif (decide (i > 0)) then (bif (inR i d.length) then (((d[i.toNat]?)).bind fun y_3 =>
                bif (inR (wi64 (i - 1)) d.length) then (((d[(wi64 (i - 1)).toNat]?)).bind fun y_4 =>
                  bif (decide (y_3.At ≤ y_4.At)) then k0 y
                  else bif (inR i d.length) then (((d[i.toNat]?)).bind fun y_5 =>
                      bif (inR y_5.At y.length) then (((y[y_5.At.toNat]?)).bind fun y_6 =>
                        bif (inR i d.length) then (((d[i.toNat]?)).bind fun y_7 =>
                          bif (y_6 == y_7.B) then k0 y
                          else bif (inR i d.length) then (((d[i.toNat]?)).bind fun y_8 =>
                              bif (inR i d.length) then (((d[i.toNat]?)).bind fun y_9 =>
                                bif (inR y_8.At y.length) then (((y[y_8.At.toNat]?)).bind fun y_10 =>
                                  kc ((wi64 (i + 1)), (y.set y_8.At.toNat y_9.B)))
                                else none)
                              else none)
                            else none)
                        else none)
                      else none)
                    else none)
                else none)
              else none)
            else bif (inR i d.length) then (((d[i.toNat]?)).bind fun y_11 =>
                bif (inR y_11.At y.length) then (((y[y_11.At.toNat]?)).bind fun y_12 =>
                  bif (inR i d.length) then (((d[i.toNat]?)).bind fun y_13 =>
                    bif (y_12 == y_13.B) then k0 y
                    else bif (inR i d.length) then (((d[i.toNat]?)).bind fun y_14 =>
                        bif (inR i d.length) then (((d[i.toNat]?)).bind fun y_15 =>
                          bif (inR y_14.At y.length) then (((y[y_14.At.toNat]?)).bind fun y_16 =>
                            kc ((wi64 (i + 1)), (y.set y_14.At.toNat y_15.B)))
                          else none)
                        else none)
                      else none)
                  else none)
                else none)
              else none)
        else none)
    else none)
  else k1 y
def law11_ImageBack_s0 (l : List (List UInt8)) (m : List (List UInt8)) (d : List TPut) (o0 : Ttenancymade_Picks) (o1 : Ttenancymade_Picks) (o2 : TState) (o3 : TState) (o4 : TState) (v_ : Int × List (List UInt8)) : Option ((Int × List (List UInt8)) ⊕ ((List (List UInt8)) ⊕ (List (List UInt8)))) := law11_ImageBack_s0k l m d o0 o1 o2 o3 o4 (fun x => some (.inl x)) (fun x => some (.inr (.inl x))) (fun x => some (.inr (.inr x))) v_.1 v_.2
def law11_ImageBack_l0 (l : List (List UInt8)) (m : List (List UInt8)) (d : List TPut) (o0 : Ttenancymade_Picks) (o1 : Ttenancymade_Picks) (o2 : TState) (o3 : TState) (o4 : TState) (i : Int) (y : List (List UInt8)) : Option ((List (List UInt8)) ⊕ (List (List UInt8))) := iter (law11_ImageBack_s0 l m d o0 o1 o2 o3 o4) n_ (i, y)
theorem law11_ImageBack_s0_bind {α : Type} (l : List (List UInt8)) (m : List (List UInt8)) (d : List TPut) (o0 : Ttenancymade_Picks) (o1 : Ttenancymade_Picks) (o2 : TState) (o3 : TState) (o4 : TState) (kc : (Int × List (List UInt8)) → Option α) (k0 : (List (List UInt8)) → Option α) (k1 : (List (List UInt8)) → Option α) (i : Int) (y : List (List UInt8)) : law11_ImageBack_s0k l m d o0 o1 o2 o3 o4 kc k0 k1 i y = (law11_ImageBack_s0 l m d o0 o1 o2 o3 o4 (i, y)).bind fun s_ => alt s_ kc (fun s0_ => alt s0_ k0 k1) := by
  unfold law11_ImageBack_s0 law11_ImageBack_s0k; simp only [bind_cond, Option.bind_assoc, alt_bind, Option.bind_some, Option.bind_none, alt_inl, alt_inr]
@[reducible] def law11_ImageBack_s1k {α : Type} (l : List (List UInt8)) (m : List (List UInt8)) (o0 : Ttenancymade_Picks) (o1 : Ttenancymade_Picks) (o2 : TState) (o3 : TState) (o4 : TState) (y : List (List UInt8)) (kc : Int → Option α) (k0 : Unit → Option α) (k1 : Unit → Option α) (i : Int) : Option α :=
  bif (decide (i < (l.length : Int))) then (bif (inR i l.length) then (((l[i.toNat]?)).bind fun y_1 =>
      bif ((y_1.length : Int) != 32) then k0 ()
      else kc (wi64 (i + 1)))
    else none)
  else k1 ()
def law11_ImageBack_s1 (l : List (List UInt8)) (m : List (List UInt8)) (o0 : Ttenancymade_Picks) (o1 : Ttenancymade_Picks) (o2 : TState) (o3 : TState) (o4 : TState) (y : List (List UInt8)) (v_ : Int) : Option (Int ⊕ (Unit ⊕ Unit)) := law11_ImageBack_s1k l m o0 o1 o2 o3 o4 y (fun x => some (.inl x)) (fun x => some (.inr (.inl x))) (fun x => some (.inr (.inr x))) v_
def law11_ImageBack_l1 (l : List (List UInt8)) (m : List (List UInt8)) (o0 : Ttenancymade_Picks) (o1 : Ttenancymade_Picks) (o2 : TState) (o3 : TState) (o4 : TState) (y : List (List UInt8)) (i : Int) : Option (Unit ⊕ Unit) := iter (law11_ImageBack_s1 l m o0 o1 o2 o3 o4 y) n_ i
theorem law11_ImageBack_s1_bind {α : Type} (l : List (List UInt8)) (m : List (List UInt8)) (o0 : Ttenancymade_Picks) (o1 : Ttenancymade_Picks) (o2 : TState) (o3 : TState) (o4 : TState) (y : List (List UInt8)) (kc : Int → Option α) (k0 : Unit → Option α) (k1 : Unit → Option α) (i : Int) : law11_ImageBack_s1k l m o0 o1 o2 o3 o4 y kc k0 k1 i = (law11_ImageBack_s1 l m o0 o1 o2 o3 o4 y i).bind fun s_ => alt s_ kc (fun s0_ => alt s0_ k0 k1) := by
  unfold law11_ImageBack_s1 law11_ImageBack_s1k; simp only [bind_cond, Option.bind_assoc, alt_bind, Option.bind_some, Option.bind_none, alt_inl, alt_inr]
@[reducible] def law11_ImageBack_k {α : Type} (k0 : Bool → Option α) (a : List UInt8) (b : List UInt8) : Option α :=
  ((law11_begun n_)).bind fun r_1 =>
  bif (!r_1) then k0 false
  else bif (decide ((a.length : Int) > 60)) then k0 true
    else bif (decide ((b.length : Int) > 60)) then k0 true
      else ((made_Picks_State n_ 30 (made_Made a))).bind fun r_2 =>
        ((made_Picks_State n_ 30 (made_Made b))).bind fun r_3 =>
        ((image_Put n_ r_2.1)).bind fun r_4 =>
        ((image_Put n_ r_3.1)).bind fun r_5 =>
        ((image_Take n_ r_4)).bind fun r_6 =>
        ((image_Diff n_ r_4 r_5)).bind fun r_7 =>
        bif (!r_6.2) then k0 false
        else ((ref7_SameState n_ r_6.1 r_2.1)).bind fun r_8 =>
          bif (!r_8) then k0 false
          else bif ((r_4.length : Int) != (r_5.length : Int)) then k0 false
            else ((ref7_SameState n_ r_2.1 r_3.1)).bind fun r_9 =>
              bif (!(((r_7.length : Int) == 0) == r_9)) then k0 false
              else bif (decide (r_4.length ≤ lim)) then (((law11_ImageBack_l0 n_ r_4 r_5 r_7 r_2.2 r_3.2 r_2.1 r_3.1 r_6.1 0 r_4)).bind fun r_10 =>
                  alt r_10 (fun a_11 =>
                    k0 false) (fun b_12 =>
                    ((law11_ImageBack_l1 n_ r_4 r_5 r_2.2 r_3.2 r_2.1 r_3.1 r_6.1 b_12 0)).bind fun r_13 =>
                    alt r_13 (fun a_14 =>
                      k0 false) (fun b_15 =>
                      ((ref5_SameTexts n_ b_12 r_5)).bind fun r_16 =>
                      k0 r_16)))
                else none
def law11_ImageBack (a : List UInt8) (b : List UInt8) : Option Bool := law11_ImageBack_k n_ (fun x => some x) a b
theorem law11_ImageBack_bind {α : Type} (k0 : Bool → Option α) (a : List UInt8) (b : List UInt8) : law11_ImageBack_k n_ k0 a b = (law11_ImageBack n_ a b).bind k0 := by
  unfold law11_ImageBack law11_ImageBack_k; simp only [bind_cond, Option.bind_assoc, alt_bind, Option.bind_some, Option.bind_none, alt_inl, alt_inr]

/-! tenancy/tenancylaw11.ImageForms -/
@[reducible] def law11_ImageForms_s0k {α : Type} (l : List (List UInt8)) (kc : Int → Option α) (k0 : Unit → Option α) (k1 : Unit → Option α) (i : Int) : Option α :=
  bif (decide (i < (l.length : Int))) then (bif (inR i l.length) then (((l[i.toNat]?)).bind fun y_1 =>
      bif (!(y_1 == [0, 0, 0, 0, 0, 0, 0, 0, 0, 0, 0, 0, 0, 0, 0, 0, 0, 0, 0, 0, 0, 0, 0, 0, 0, 0, 0, 0, 0, 0, 0, 0])) then k0 ()
      else kc (wi64 (i + 1)))
    else none)
  else k1 ()
def law11_ImageForms_s0 (l : List (List UInt8)) (v_ : Int) : Option (Int ⊕ (Unit ⊕ Unit)) := law11_ImageForms_s0k l (fun x => some (.inl x)) (fun x => some (.inr (.inl x))) (fun x => some (.inr (.inr x))) v_
def law11_ImageForms_l0 (l : List (List UInt8)) (i : Int) : Option (Unit ⊕ Unit) := iter (law11_ImageForms_s0 l) n_ i
theorem law11_ImageForms_s0_bind {α : Type} (l : List (List UInt8)) (kc : Int → Option α) (k0 : Unit → Option α) (k1 : Unit → Option α) (i : Int) : law11_ImageForms_s0k l kc k0 k1 i = (law11_ImageForms_s0 l i).bind fun s_ => alt s_ kc (fun s0_ => alt s0_ k0 k1) := by
  unfold law11_ImageForms_s0 law11_ImageForms_s0k; simp only [bind_cond, Option.bind_assoc, alt_bind, Option.bind_some, Option.bind_none, alt_inl, alt_inr]
@[reducible] def law11_ImageForms_k {α : Type} (k0 : Bool → Option α) : Option α :=
  ((law11_begun n_)).bind fun r_1 =>
  bif (!r_1) then k0 false
  else ((image_Put n_ (TState.mk [(TFile.mk [] 0 []), (TFile.mk [] 0 []), (TFile.mk [] 0 []), (TFile.mk [] 0 []), (TFile.mk [] 0 []), (TFile.mk [] 0 [])] [(TMark.mk 0 0 0 0), (TMark.mk 0 0 0 0), (TMark.mk 0 0 0 0)] 0))).bind fun r_2 =>
    ((law11_ImageForms_l0 n_ r_2 0)).bind fun r_3 =>
    alt r_3 (fun a_4 =>
      k0 false) (fun b_5 =>
      ((ref7_Open n_ (TState.mk [(TFile.mk [] 0 []), (TFile.mk [] 0 []), (TFile.mk [] 0 []), (TFile.mk [] 0 []), (TFile.mk [] 0 []), (TFile.mk [] 0 [])] [(TMark.mk 0 0 0 0), (TMark.mk 0 0 0 0), (TMark.mk 0 0 0 0)] 0) 2 258 [97, 98])).bind fun r_6 =>
      ((ref7_Flush n_ r_6.1 2 259 1 [(TWrite.mk 0 [120, 121, 122])])).bind fun r_7 =>
      ((image_Put n_ (TState.mk r_7.1.Files r_7.1.Marks 7))).bind fun r_8 =>
      bif ((r_2.length : Int) != 9) then k0 false
      else bif ((r_8.length : Int) != 9) then k0 false
        else bif (inR 0 r_8.length) then (((r_8[0]?)).bind fun y_9 =>
            bif ((y_9.length : Int) != 32) then k0 false
            else bif (inR 1 r_8.length) then (((r_8[1]?)).bind fun y_10 =>
                bif ((y_10.length : Int) != 32) then k0 false
                else bif (inR 0 r_8.length) then (((r_8[0]?)).bind fun y_11 =>
                    bif (cutOk 0 4 y_11.length) then (bif ((cutL y_11 0 4) == [0, 0, 0, 7]) then (bif (inR 0 r_8.length) then (((r_8[0]?)).bind fun y_12 =>
                          bif (cutOk 14 24 y_12.length) then (bif ((cutL y_12 14 24) == [0, 0, 1, 3, 0, 1, 0, 0, 0, 2]) then (bif (inR 1 r_8.length) then (((r_8[1]?)).bind fun y_13 =>
                                bif (cutOk 2 6 y_13.length) then (bif ((cutL y_13 2 6) == [2, 97, 98, 0]) then (bif (inR 1 r_8.length) then (((r_8[1]?)).bind fun y_14 =>
                                      bif (cutOk 11 19 y_14.length) then (bif ((cutL y_14 11 19) == [0, 0, 0, 2, 3, 120, 121, 122]) then (bif (inR 2 r_8.length) then (((r_8[2]?)).bind fun y_15 =>
                                            bif (inR 2 r_2.length) then (((r_2[2]?)).bind fun y_16 =>
                                              k0 (y_15 == y_16))
                                            else none)
                                          else none)
                                        else k0 false)
                                      else none)
                                    else none)
                                  else k0 false)
                                else none)
                              else none)
                            else k0 false)
                          else none)
                        else none)
                      else k0 false)
                    else none)
                  else none)
              else none)
          else none)
def law11_ImageForms : Option Bool := law11_ImageForms_k n_ (fun x => some x)
theorem law11_ImageForms_bind {α : Type} (k0 : Bool → Option α) : law11_ImageForms_k n_ k0 = (law11_ImageForms n_).bind k0 := by
  unfold law11_ImageForms law11_ImageForms_k; simp only [bind_cond, Option.bind_assoc, alt_bind, Option.bind_some, Option.bind_none, alt_inl, alt_inr]

/-! tenancy/tenancylaw11.ImageFixed -/
@[reducible] def law11_ImageFixed_s0k {α : Type} (l : List (List UInt8)) (o0 : Ttenancymade_Picks) (kc : Int → Option α) (k0 : Unit → Option α) (k1 : Unit → Option α) (i : Int) : Option α :=
  bif (decide (i < (l.length : Int))) then (bif (inR i l.length) then (((l[i.toNat]?)).bind fun y_1 =>
      bif ((y_1.length : Int) != 32) then k0 ()
      else kc (wi64 (i + 1)))
    else none)
  else k1 ()
def law11_ImageFixed_s0 (l : List (List UInt8)) (o0 : Ttenancymade_Picks) (v_ : Int) : Option (Int ⊕ (Unit ⊕ Unit)) := law11_ImageFixed_s0k l o0 (fun x => some (.inl x)) (fun x => some (.inr (.inl x))) (fun x => some (.inr (.inr x))) v_
def law11_ImageFixed_l0 (l : List (List UInt8)) (o0 : Ttenancymade_Picks) (i : Int) : Option (Unit ⊕ Unit) := iter (law11_ImageFixed_s0 l o0) n_ i
theorem law11_ImageFixed_s0_bind {α : Type} (l : List (List UInt8)) (o0 : Ttenancymade_Picks) (kc : Int → Option α) (k0 : Unit → Option α) (k1 : Unit → Option α) (i : Int) : law11_ImageFixed_s0k l o0 kc k0 k1 i = (law11_ImageFixed_s0 l o0 i).bind fun s_ => alt s_ kc (fun s0_ => alt s0_ k0 k1) := by
  unfold law11_ImageFixed_s0 law11_ImageFixed_s0k; simp only [bind_cond, Option.bind_assoc, alt_bind, Option.bind_some, Option.bind_none, alt_inl, alt_inr]
@[reducible] def law11_ImageFixed_k {α : Type} (k0 : Bool → Option α) (picks : List UInt8) : Option α :=
  ((law11_begun n_)).bind fun r_1 =>
  bif (!r_1) then k0 false
  else bif (decide ((picks.length : Int) > 60)) then k0 true
    else ((made_Picks_State n_ 30 (made_Made picks))).bind fun r_2 =>
      ((image_Put n_ r_2.1)).bind fun r_3 =>
      ((law11_ImageFixed_l0 n_ r_3 r_2.2 0)).bind fun r_4 =>
      alt r_4 (fun a_5 =>
        k0 false) (fun b_6 =>
        ((image_Put n_ (TState.mk [(TFile.mk [] 0 []), (TFile.mk [] 0 []), (TFile.mk [] 0 []), (TFile.mk [] 0 []), (TFile.mk [] 0 []), (TFile.mk [] 0 [])] [(TMark.mk 0 0 0 0), (TMark.mk 0 0 0 0), (TMark.mk 0 0 0 0)] 0))).bind fun r_7 =>
        ((image_Diff n_ r_3 r_7)).bind fun r_8 =>
        bif ((r_3.length : Int) == 9) then (bif (decide ((r_8.length : Int) ≤ 9)) then (((image_Diff n_ r_3 r_3)).bind fun r_9 =>
            k0 ((r_9.length : Int) == 0))
          else k0 false)
        else k0 false)
def law11_ImageFixed (picks : List UInt8) : Option Bool := law11_ImageFixed_k n_ (fun x => some x) picks
theorem law11_ImageFixed_bind {α : Type} (k0 : Bool → Option α) (picks : List UInt8) : law11_ImageFixed_k n_ k0 picks = (law11_ImageFixed n_ picks).bind k0 := by
  unfold law11_ImageFixed law11_ImageFixed_k; simp only [bind_cond, Option.bind_assoc, alt_bind, Option.bind_some, Option.bind_none, alt_inl, alt_inr]

end
end Go.Proofs.Ythefogjlenmgfaa.N
