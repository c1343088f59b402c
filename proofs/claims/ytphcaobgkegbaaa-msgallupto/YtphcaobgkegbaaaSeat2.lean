/- The nice functions: what the program's functions come to. -/
import Derived.Test.YtphcaobgkegbaaaBase6
set_option linter.unusedVariables false
set_option linter.unusedSimpArgs false
set_option maxRecDepth 10000
namespace Go.Proofs.Ytphcaobgkegbaaa.N
noncomputable section
variable (n_ : Nat)

/-! tenancy/msg.from -/
@[reducible] def msg_from_k {α : Type} (k : Bool → α) (lo : Int) (hi : Int) (v : Int) : α :=
  bif (decide (lo ≤ v)) then k (decide (v ≤ hi))
  else k false
def msg_from (lo : Int) (hi : Int) (v : Int) : Bool := msg_from_k id lo hi v
theorem msg_from_bind {α : Type} (k : Bool → α) (lo : Int) (hi : Int) (v : Int) : msg_from_k k lo hi v = k (msg_from lo hi v) := by
  unfold msg_from msg_from_k; simp only [Bool.apply_cond k, id]

/-! tenancy/dir.May -/
@[reducible] def dir_May_s0k {α : Type} (name : List UInt8) (t7 : Int) (r0 : List UInt8) (kc : Int → Option α) (k0 : Unit → Option α) (k1 : Unit → Option α) (t8 : Int) : Option α :=
  bif (decide (t8 < t7)) then (bif (inR t8 r0.length) then (((r0[t8.toNat]?)).bind fun y_1 =>
      bif (decide ((i8 y_1) < 33)) then k0 ()
      else bif (decide ((i8 y_1) > 126)) then k0 ()
        else kc (wi64 (t8 + 1)))
    else none)
  else k1 ()
def dir_May_s0 (name : List UInt8) (t7 : Int) (r0 : List UInt8) (v_ : Int) : Option (Int ⊕ (Unit ⊕ Unit)) := dir_May_s0k name t7 r0 (fun x => some (.inl x)) (fun x => some (.inr (.inl x))) (fun x => some (.inr (.inr x))) v_
def dir_May_l0 (name : List UInt8) (t7 : Int) (r0 : List UInt8) (t8 : Int) : Option (Unit ⊕ Unit) := iter (dir_May_s0 name t7 r0) n_ t8
theorem dir_May_s0_bind {α : Type} (name : List UInt8) (t7 : Int) (r0 : List UInt8) (kc : Int → Option α) (k0 : Unit → Option α) (k1 : Unit → Option α) (t8 : Int) : dir_May_s0k name t7 r0 kc k0 k1 t8 = (dir_May_s0 name t7 r0 t8).bind fun s_ => alt s_ kc (fun s0_ => alt s0_ k0 k1) := by
  unfold dir_May_s0 dir_May_s0k; simp only [bind_cond, Option.bind_assoc, alt_bind, Option.bind_some, Option.bind_none, alt_inl, alt_inr]
@[reducible] def dir_May_k {α : Type} (k0 : Bool → Option α) (name : List UInt8) : Option α :=
  ((dir_May_l0 n_ name (name.length : Int) name 0)).bind fun r_1 =>
  alt r_1 (fun a_2 =>
    k0 false) (fun b_3 =>
    bif (decide ((name.length : Int) ≥ 1)) then k0 (decide ((name.length : Int) ≤ 8))
    else k0 false)
def dir_May (name : List UInt8) : Option Bool := dir_May_k n_ (fun x => some x) name
theorem dir_May_bind {α : Type} (k0 : Bool → Option α) (name : List UInt8) : dir_May_k n_ k0 name = (dir_May n_ name).bind k0 := by
  unfold dir_May dir_May_k; simp only [bind_cond, Option.bind_assoc, alt_bind, Option.bind_some, Option.bind_none, alt_inl, alt_inr]

/-! tenancy/file.May -/
@[reducible] def file_May_k {α : Type} (k : Bool → α) (w : TWrite) : α :=
  bif (decide (w.Off ≥ 0)) then (bif (decide ((w.B.length : Int) ≥ 1)) then (bif (decide ((w.B.length : Int) ≤ 24)) then k (decide (w.Off ≤ (wi64 (24 - (w.B.length : Int)))))
      else k false)
    else k false)
  else k false
def file_May (w : TWrite) : Bool := file_May_k id w
theorem file_May_bind {α : Type} (k : Bool → α) (w : TWrite) : file_May_k k w = k (file_May w) := by
  unfold file_May file_May_k; simp only [Bool.apply_cond k, id]

/-! tenancy/msg.wants$1 -/
@[reducible] def msg_wants_c1_k {α : Type} (k : Bool → α) (w : TWrite) : α :=
  k (!(file_May w))
def msg_wants_c1 (w : TWrite) : Bool := msg_wants_c1_k id w
theorem msg_wants_c1_bind {α : Type} (k : Bool → α) (w : TWrite) : msg_wants_c1_k k w = k (msg_wants_c1 w) := by
  unfold msg_wants_c1 msg_wants_c1_k; simp only [Bool.apply_cond k, id]

/-! slices.IndexFunc[[]tenancy/api.Write,tenancy/api.Write] -/
@[reducible] def slices_IndexFunc_Write_s0k {α : Type} (s : List TWrite) (t7 : Int) (kc : Int → Option α) (k0 : Int → Option α) (k1 : Unit → Option α) (t8 : Int) : Option α :=
  bif (decide (t8 < t7)) then (bif (inR t8 s.length) then (((s[t8.toNat]?)).bind fun y_1 =>
      bif (msg_wants_c1 y_1) then k0 t8
      else kc (wi64 (t8 + 1)))
    else none)
  else k1 ()
def slices_IndexFunc_Write_s0 (s : List TWrite) (t7 : Int) (v_ : Int) : Option (Int ⊕ (Int ⊕ Unit)) := slices_IndexFunc_Write_s0k s t7 (fun x => some (.inl x)) (fun x => some (.inr (.inl x))) (fun x => some (.inr (.inr x))) v_
def slices_IndexFunc_Write_l0 (s : List TWrite) (t7 : Int) (t8 : Int) : Option (Int ⊕ Unit) := iter (slices_IndexFunc_Write_s0 s t7) n_ t8
theorem slices_IndexFunc_Write_s0_bind {α : Type} (s : List TWrite) (t7 : Int) (kc : Int → Option α) (k0 : Int → Option α) (k1 : Unit → Option α) (t8 : Int) : slices_IndexFunc_Write_s0k s t7 kc k0 k1 t8 = (slices_IndexFunc_Write_s0 s t7 t8).bind fun s_ => alt s_ kc (fun s0_ => alt s0_ k0 k1) := by
  unfold slices_IndexFunc_Write_s0 slices_IndexFunc_Write_s0k; simp only [bind_cond, Option.bind_assoc, alt_bind, Option.bind_some, Option.bind_none, alt_inl, alt_inr]
@[reducible] def slices_IndexFunc_Write_k {α : Type} (k0 : Int → Option α) (s : List TWrite) : Option α :=
  ((slices_IndexFunc_Write_l0 n_ s (s.length : Int) 0)).bind fun r_1 =>
  alt r_1 (fun a_2 =>
    k0 a_2) (fun b_3 =>
    k0 (-1))
def slices_IndexFunc_Write (s : List TWrite) : Option Int := slices_IndexFunc_Write_k n_ (fun x => some x) s
theorem slices_IndexFunc_Write_bind {α : Type} (k0 : Int → Option α) (s : List TWrite) : slices_IndexFunc_Write_k n_ k0 s = (slices_IndexFunc_Write n_ s).bind k0 := by
  unfold slices_IndexFunc_Write slices_IndexFunc_Write_k; simp only [bind_cond, Option.bind_assoc, alt_bind, Option.bind_some, Option.bind_none, alt_inl, alt_inr]

/-! slices.ContainsFunc[[]tenancy/api.Write,tenancy/api.Write] -/
@[reducible] def slices_ContainsFunc_Write_k {α : Type} (k0 : Bool → Option α) (s : List TWrite) : Option α :=
  ((slices_IndexFunc_Write n_ s)).bind fun r_1 =>
  k0 (decide (r_1 ≥ 0))
def slices_ContainsFunc_Write (s : List TWrite) : Option Bool := slices_ContainsFunc_Write_k n_ (fun x => some x) s
theorem slices_ContainsFunc_Write_bind {α : Type} (k0 : Bool → Option α) (s : List TWrite) : slices_ContainsFunc_Write_k n_ k0 s = (slices_ContainsFunc_Write n_ s).bind k0 := by
  unfold slices_ContainsFunc_Write slices_ContainsFunc_Write_k; simp only [bind_cond, Option.bind_assoc, alt_bind, Option.bind_some, Option.bind_none, alt_inl, alt_inr]

/-! tenancy/msg.wants -/
@[reducible] def msg_wants_k {α : Type} (k0 : (TAsk × Bool) → Option α) (a : TAsk) : Option α :=
  bif (a.Kind == 1) then (((dir_May n_ a.Name)).bind fun r_1 =>
    k0 ((TAsk.mk a.Kind a.From a.Epoch a.Seq a.Name 0 0 []), r_1))
  else bif (a.Kind == 2) then (bif (msg_from 1 6 a.File) then k0 ((TAsk.mk a.Kind a.From a.Epoch a.Seq [] a.File a.Mode []), (msg_from 1 2 a.Mode))
      else k0 ((TAsk.mk a.Kind a.From a.Epoch a.Seq [] a.File a.Mode []), false))
    else bif (a.Kind == 3) then (bif (decide ((a.Writes.length : Int) ≤ 5)) then (bif (decide ((a.Writes.length : Int) > 0)) then (bif (msg_from 1 6 a.File) then (((slices_ContainsFunc_Write n_ a.Writes)).bind fun r_2 =>
              k0 ((TAsk.mk a.Kind a.From a.Epoch a.Seq [] a.File 0 a.Writes), (!r_2)))
            else k0 ((TAsk.mk a.Kind a.From a.Epoch a.Seq [] a.File 0 a.Writes), false))
          else bif (msg_from 1 6 a.File) then (bif (a.Kind == 4) then (((slices_ContainsFunc_Write n_ a.Writes)).bind fun r_3 =>
                k0 ((TAsk.mk a.Kind a.From a.Epoch a.Seq [] a.File 0 a.Writes), (!r_3)))
              else k0 ((TAsk.mk a.Kind a.From a.Epoch a.Seq [] a.File 0 a.Writes), false))
            else k0 ((TAsk.mk a.Kind a.From a.Epoch a.Seq [] a.File 0 a.Writes), false))
        else bif (msg_from 1 6 a.File) then k0 ((TAsk.mk a.Kind a.From a.Epoch a.Seq [] a.File 0 a.Writes), false)
          else k0 ((TAsk.mk a.Kind a.From a.Epoch a.Seq [] a.File 0 a.Writes), false))
      else bif (a.Kind == 4) then (bif (decide ((a.Writes.length : Int) ≤ 5)) then (bif (decide ((a.Writes.length : Int) > 0)) then (bif (msg_from 1 6 a.File) then (((slices_ContainsFunc_Write n_ a.Writes)).bind fun r_4 =>
                k0 ((TAsk.mk a.Kind a.From a.Epoch a.Seq [] a.File 0 a.Writes), (!r_4)))
              else k0 ((TAsk.mk a.Kind a.From a.Epoch a.Seq [] a.File 0 a.Writes), false))
            else bif (msg_from 1 6 a.File) then (bif (a.Kind == 4) then (((slices_ContainsFunc_Write n_ a.Writes)).bind fun r_5 =>
                  k0 ((TAsk.mk a.Kind a.From a.Epoch a.Seq [] a.File 0 a.Writes), (!r_5)))
                else k0 ((TAsk.mk a.Kind a.From a.Epoch a.Seq [] a.File 0 a.Writes), false))
              else k0 ((TAsk.mk a.Kind a.From a.Epoch a.Seq [] a.File 0 a.Writes), false))
          else bif (msg_from 1 6 a.File) then k0 ((TAsk.mk a.Kind a.From a.Epoch a.Seq [] a.File 0 a.Writes), false)
            else k0 ((TAsk.mk a.Kind a.From a.Epoch a.Seq [] a.File 0 a.Writes), false))
        else k0 ((TAsk.mk a.Kind a.From a.Epoch a.Seq [] a.File 0 []), (msg_from 1 6 a.File))
def msg_wants (a : TAsk) : Option (TAsk × Bool) := msg_wants_k n_ (fun x => some x) a
theorem msg_wants_bind {α : Type} (k0 : (TAsk × Bool) → Option α) (a : TAsk) : msg_wants_k n_ k0 a = (msg_wants n_ a).bind k0 := by
  unfold msg_wants msg_wants_k; simp only [bind_cond, Option.bind_assoc, alt_bind, Option.bind_some, Option.bind_none, alt_inl, alt_inr]

/-! slices.Equal[[]tenancy/api.Write,tenancy/api.Write] -/
@[reducible] def slices_Equal_Write_s0k {α : Type} (s1 : List TWrite) (s2 : List TWrite) (t12 : Int) (kc : Int → Option α) (k0 : Unit → Option α) (k1 : Unit → Option α) (t13 : Int) : Option α :=
  bif (decide (t13 < t12)) then (bif (inR t13 s1.length) then (((s1[t13.toNat]?)).bind fun y_1 =>
      bif (inR t13 s2.length) then (((s2[t13.toNat]?)).bind fun y_2 =>
        bif (!(TWrite.eqb y_1 y_2)) then k0 ()
        else kc (wi64 (t13 + 1)))
      else none)
    else none)
  else k1 ()
def slices_Equal_Write_s0 (s1 : List TWrite) (s2 : List TWrite) (t12 : Int) (v_ : Int) : Option (Int ⊕ (Unit ⊕ Unit)) := slices_Equal_Write_s0k s1 s2 t12 (fun x => some (.inl x)) (fun x => some (.inr (.inl x))) (fun x => some (.inr (.inr x))) v_
def slices_Equal_Write_l0 (s1 : List TWrite) (s2 : List TWrite) (t12 : Int) (t13 : Int) : Option (Unit ⊕ Unit) := iter (slices_Equal_Write_s0 s1 s2 t12) n_ t13
theorem slices_Equal_Write_s0_bind {α : Type} (s1 : List TWrite) (s2 : List TWrite) (t12 : Int) (kc : Int → Option α) (k0 : Unit → Option α) (k1 : Unit → Option α) (t13 : Int) : slices_Equal_Write_s0k s1 s2 t12 kc k0 k1 t13 = (slices_Equal_Write_s0 s1 s2 t12 t13).bind fun s_ => alt s_ kc (fun s0_ => alt s0_ k0 k1) := by
  unfold slices_Equal_Write_s0 slices_Equal_Write_s0k; simp only [bind_cond, Option.bind_assoc, alt_bind, Option.bind_some, Option.bind_none, alt_inl, alt_inr]
@[reducible] def slices_Equal_Write_k {α : Type} (k0 : Bool → Option α) (s1 : List TWrite) (s2 : List TWrite) : Option α :=
  bif ((s1.length : Int) != (s2.length : Int)) then k0 false
  else ((slices_Equal_Write_l0 n_ s1 s2 (s1.length : Int) 0)).bind fun r_1 =>
    alt r_1 (fun a_2 =>
      k0 false) (fun b_3 =>
      k0 true)
def slices_Equal_Write (s1 : List TWrite) (s2 : List TWrite) : Option Bool := slices_Equal_Write_k n_ (fun x => some x) s1 s2
theorem slices_Equal_Write_bind {α : Type} (k0 : Bool → Option α) (s1 : List TWrite) (s2 : List TWrite) : slices_Equal_Write_k n_ k0 s1 s2 = (slices_Equal_Write n_ s1 s2).bind k0 := by
  unfold slices_Equal_Write slices_Equal_Write_k; simp only [bind_cond, Option.bind_assoc, alt_bind, Option.bind_some, Option.bind_none, alt_inl, alt_inr]

/-! tenancy/msg.SameAsk -/
@[reducible] def msg_SameAsk_k {α : Type} (k0 : Bool → Option α) (a : TAsk) (b : TAsk) : Option α :=
  bif (a.Kind == b.Kind) then (bif (a.From == b.From) then (bif (a.Epoch == b.Epoch) then (bif (a.Seq == b.Seq) then (bif (a.Name == b.Name) then (bif (a.File == b.File) then (bif (a.Mode == b.Mode) then (((slices_Equal_Write n_ a.Writes b.Writes)).bind fun r_1 =>
                k0 r_1)
              else k0 false)
            else k0 false)
          else k0 false)
        else k0 false)
      else k0 false)
    else k0 false)
  else k0 false
def msg_SameAsk (a : TAsk) (b : TAsk) : Option Bool := msg_SameAsk_k n_ (fun x => some x) a b
theorem msg_SameAsk_bind {α : Type} (k0 : Bool → Option α) (a : TAsk) (b : TAsk) : msg_SameAsk_k n_ k0 a b = (msg_SameAsk n_ a b).bind k0 := by
  unfold msg_SameAsk msg_SameAsk_k; simp only [bind_cond, Option.bind_assoc, alt_bind, Option.bind_some, Option.bind_none, alt_inl, alt_inr]

/-! tenancy/msg.MayAsk -/
@[reducible] def msg_MayAsk_k {α : Type} (k0 : Bool → Option α) (a : TAsk) : Option α :=
  bif (!(msg_from 1 5 a.Kind)) then k0 false
  else bif (!(msg_from 1 3 a.From)) then k0 false
    else bif (!(msg_from 0 1073741824 a.Epoch)) then k0 false
      else bif (!(msg_from 1 1073741824 a.Seq)) then k0 false
        else ((msg_wants n_ a)).bind fun r_1 =>
          bif r_1.2 then (((msg_SameAsk n_ a r_1.1)).bind fun r_2 =>
            k0 r_2)
          else k0 false
def msg_MayAsk (a : TAsk) : Option Bool := msg_MayAsk_k n_ (fun x => some x) a
theorem msg_MayAsk_bind {α : Type} (k0 : Bool → Option α) (a : TAsk) : msg_MayAsk_k n_ k0 a = (msg_MayAsk n_ a).bind k0 := by
  unfold msg_MayAsk msg_MayAsk_k; simp only [bind_cond, Option.bind_assoc, alt_bind, Option.bind_some, Option.bind_none, alt_inl, alt_inr]

/-! tenancy/bits.Put -/
@[reducible] def bits_Put_s0k {α : Type} (v : Int) (kc : (Int × List UInt8) → Option α) (k0 : (List UInt8) → Option α) (n : Int) (b : List UInt8) : Option α :=
  bif (decide (n ≥ 0)) then (bif (decide ((wi64 (8 * n)) < 0)) then none
    else bif (decide ((b.length + 1) ≤ lim)) then kc ((wi64 (n - 1)), (b ++ [(b8 (wu8 (shrI .i64 v (wi64 (8 * n)))))]))
      else none)
  else k0 b
def bits_Put_s0 (v : Int) (v_ : Int × List UInt8) : Option ((Int × List UInt8) ⊕ (List UInt8)) := bits_Put_s0k v (fun x => some (.inl x)) (fun x => some (.inr x)) v_.1 v_.2
def bits_Put_l0 (v : Int) (n : Int) (b : List UInt8) : Option (List UInt8) := iter (bits_Put_s0 v) n_ (n, b)
theorem bits_Put_s0_bind {α : Type} (v : Int) (kc : (Int × List UInt8) → Option α) (k0 : (List UInt8) → Option α) (n : Int) (b : List UInt8) : bits_Put_s0k v kc k0 n b = (bits_Put_s0 v (n, b)).bind fun s_ => alt s_ kc k0 := by
  unfold bits_Put_s0 bits_Put_s0k; simp only [bind_cond, Option.bind_assoc, alt_bind, Option.bind_some, Option.bind_none, alt_inl, alt_inr]
@[reducible] def bits_Put_k {α : Type} (k0 : (List UInt8) → Option α) (b : List UInt8) (v : Int) (n : Int) : Option α :=
  bif (decide (n < 1)) then k0 b
  else bif (decide (n > 8)) then k0 b
    else ((bits_Put_l0 n_ v (wi64 (n - 1)) b)).bind fun r_1 =>
      k0 r_1
def bits_Put (b : List UInt8) (v : Int) (n : Int) : Option (List UInt8) := bits_Put_k n_ (fun x => some x) b v n
theorem bits_Put_bind {α : Type} (k0 : (List UInt8) → Option α) (b : List UInt8) (v : Int) (n : Int) : bits_Put_k n_ k0 b v n = (bits_Put n_ b v n).bind k0 := by
  unfold bits_Put bits_Put_k; simp only [bind_cond, Option.bind_assoc, alt_bind, Option.bind_some, Option.bind_none, alt_inl, alt_inr]

/-! tenancy/bits.Text -/
@[reducible] def bits_Text_k {α : Type} (k0 : (List UInt8) → Option α) (b : List UInt8) (s : List UInt8) : Option α :=
  bif (decide ((s.length : Int) > 255)) then k0 b
  else bif (decide ((b.length + 1) ≤ lim)) then (bif (decide (((b ++ [(b8 (wu8 (s.length : Int)))]).length + s.length) ≤ lim)) then k0 ((b ++ [(b8 (wu8 (s.length : Int)))]) ++ s)
      else none)
    else none
def bits_Text (b : List UInt8) (s : List UInt8) : Option (List UInt8) := bits_Text_k (fun x => some x) b s
theorem bits_Text_bind {α : Type} (k0 : (List UInt8) → Option α) (b : List UInt8) (s : List UInt8) : bits_Text_k k0 b s = (bits_Text b s).bind k0 := by
  unfold bits_Text bits_Text_k; simp only [bind_cond, Option.bind_assoc, alt_bind, Option.bind_some, Option.bind_none, alt_inl, alt_inr]

/-! tenancy/crc.Sum -/
@[reducible] def crc_Sum_s0k {α : Type} (t6 : List UInt8) (t7 : Int) (t8 : Int) (kc : (Int × Int) → Option α) (k0 : Int → Option α) (c : Int) (t16 : Int) : Option α :=
  bif (decide (t16 < 8)) then (bif ((band .u16 c 1) == 1) then kc ((bxor .u16 (shrI .u16 c 1) 40961), (wi64 (t16 + 1)))
    else kc ((shrI .u16 c 1), (wi64 (t16 + 1))))
  else k0 c
def crc_Sum_s0 (t6 : List UInt8) (t7 : Int) (t8 : Int) (v_ : Int × Int) : Option ((Int × Int) ⊕ Int) := crc_Sum_s0k t6 t7 t8 (fun x => some (.inl x)) (fun x => some (.inr x)) v_.1 v_.2
def crc_Sum_l0 (t6 : List UInt8) (t7 : Int) (t8 : Int) (c : Int) (t16 : Int) : Option Int := iter (crc_Sum_s0 t6 t7 t8) n_ (c, t16)
theorem crc_Sum_s0_bind {α : Type} (t6 : List UInt8) (t7 : Int) (t8 : Int) (kc : (Int × Int) → Option α) (k0 : Int → Option α) (c : Int) (t16 : Int) : crc_Sum_s0k t6 t7 t8 kc k0 c t16 = (crc_Sum_s0 t6 t7 t8 (c, t16)).bind fun s_ => alt s_ kc k0 := by
  unfold crc_Sum_s0 crc_Sum_s0k; simp only [bind_cond, Option.bind_assoc, alt_bind, Option.bind_some, Option.bind_none, alt_inl, alt_inr]
@[reducible] def crc_Sum_s1k {α : Type} (t6 : List UInt8) (t7 : Int) (kc : (Int × Int) → Option α) (k0 : Int → Option α) (c : Int) (t8 : Int) : Option α :=
  bif (decide (t8 < t7)) then (bif (inR t8 t6.length) then (((t6[t8.toNat]?)).bind fun y_1 =>
      ((crc_Sum_l0 n_ t6 t7 t8 (bxor .u16 c (wu16 (i8 y_1))) 0)).bind fun r_2 =>
      kc (r_2, (wi64 (t8 + 1))))
    else none)
  else k0 c
def crc_Sum_s1 (t6 : List UInt8) (t7 : Int) (v_ : Int × Int) : Option ((Int × Int) ⊕ Int) := crc_Sum_s1k n_ t6 t7 (fun x => some (.inl x)) (fun x => some (.inr x)) v_.1 v_.2
def crc_Sum_l1 (t6 : List UInt8) (t7 : Int) (c : Int) (t8 : Int) : Option Int := iter (crc_Sum_s1 n_ t6 t7) n_ (c, t8)
theorem crc_Sum_s1_bind {α : Type} (t6 : List UInt8) (t7 : Int) (kc : (Int × Int) → Option α) (k0 : Int → Option α) (c : Int) (t8 : Int) : crc_Sum_s1k n_ t6 t7 kc k0 c t8 = (crc_Sum_s1 n_ t6 t7 (c, t8)).bind fun s_ => alt s_ kc k0 := by
  unfold crc_Sum_s1 crc_Sum_s1k; simp only [bind_cond, Option.bind_assoc, alt_bind, Option.bind_some, Option.bind_none, alt_inl, alt_inr]
@[reducible] def crc_Sum_k {α : Type} (k0 : Int → Option α) (b : List UInt8) : Option α :=
  ((crc_Sum_l1 n_ b (b.length : Int) 0 0)).bind fun r_1 =>
  k0 r_1
def crc_Sum (b : List UInt8) : Option Int := crc_Sum_k n_ (fun x => some x) b
theorem crc_Sum_bind {α : Type} (k0 : Int → Option α) (b : List UInt8) : crc_Sum_k n_ k0 b = (crc_Sum n_ b).bind k0 := by
  unfold crc_Sum crc_Sum_k; simp only [bind_cond, Option.bind_assoc, alt_bind, Option.bind_some, Option.bind_none, alt_inl, alt_inr]

/-! tenancy/msg.sealed -/
@[reducible] def msg_sealed_k {α : Type} (k0 : (List UInt8) → Option α) (b : List UInt8) : Option α :=
  ((crc_Sum n_ b)).bind fun r_1 =>
  ((bits_Put n_ b (wi64 r_1) 2)).bind fun r_2 =>
  k0 r_2
def msg_sealed (b : List UInt8) : Option (List UInt8) := msg_sealed_k n_ (fun x => some x) b
theorem msg_sealed_bind {α : Type} (k0 : (List UInt8) → Option α) (b : List UInt8) : msg_sealed_k n_ k0 b = (msg_sealed n_ b).bind k0 := by
  unfold msg_sealed msg_sealed_k; simp only [bind_cond, Option.bind_assoc, alt_bind, Option.bind_some, Option.bind_none, alt_inl, alt_inr]

/-! tenancy/msg.PutAsk -/
@[reducible] def msg_PutAsk_s0k {α : Type} (t37 : List TWrite) (t38 : Int) (o0 : TAsk) (kc : (List UInt8 × Int) → Option α) (k0 : (List UInt8) → Option α) (b : List UInt8) (t39 : Int) : Option α :=
  bif (decide (t39 < t38)) then (bif (inR t39 t37.length) then (((t37[t39.toNat]?)).bind fun y_1 =>
      ((bits_Put n_ b y_1.Off 1)).bind fun r_2 =>
      ((bits_Text r_2 y_1.B)).bind fun r_3 =>
      kc (r_3, (wi64 (t39 + 1))))
    else none)
  else k0 b
def msg_PutAsk_s0 (t37 : List TWrite) (t38 : Int) (o0 : TAsk) (v_ : List UInt8 × Int) : Option ((List UInt8 × Int) ⊕ (List UInt8)) := msg_PutAsk_s0k n_ t37 t38 o0 (fun x => some (.inl x)) (fun x => some (.inr x)) v_.1 v_.2
def msg_PutAsk_l0 (t37 : List TWrite) (t38 : Int) (o0 : TAsk) (b : List UInt8) (t39 : Int) : Option (List UInt8) := iter (msg_PutAsk_s0 n_ t37 t38 o0) n_ (b, t39)
theorem msg_PutAsk_s0_bind {α : Type} (t37 : List TWrite) (t38 : Int) (o0 : TAsk) (kc : (List UInt8 × Int) → Option α) (k0 : (List UInt8) → Option α) (b : List UInt8) (t39 : Int) : msg_PutAsk_s0k n_ t37 t38 o0 kc k0 b t39 = (msg_PutAsk_s0 n_ t37 t38 o0 (b, t39)).bind fun s_ => alt s_ kc k0 := by
  unfold msg_PutAsk_s0 msg_PutAsk_s0k; simp only [bind_cond, Option.bind_assoc, alt_bind, Option.bind_some, Option.bind_none, alt_inl, alt_inr]
@[reducible] def msg_PutAsk_k {α : Type} (k0 : (List UInt8) → Option α) (a : TAsk) : Option α :=
  ((msg_MayAsk n_ a)).bind fun r_1 =>
  bif (!r_1) then k0 ([])
  else ((bits_Put n_ [] a.Kind 1)).bind fun r_2 =>
    ((bits_Put n_ r_2 a.From 1)).bind fun r_3 =>
    ((bits_Put n_ r_3 a.Epoch 4)).bind fun r_4 =>
    ((bits_Put n_ r_4 a.Seq 4)).bind fun r_5 =>
    ((bits_Text r_5 a.Name)).bind fun r_6 =>
    ((bits_Put n_ r_6 a.File 1)).bind fun r_7 =>
    ((bits_Put n_ r_7 a.Mode 1)).bind fun r_8 =>
    ((bits_Put n_ r_8 (a.Writes.length : Int) 1)).bind fun r_9 =>
    ((msg_PutAsk_l0 n_ a.Writes (a.Writes.length : Int) a r_9 0)).bind fun r_10 =>
    ((msg_sealed n_ r_10)).bind fun r_11 =>
    k0 r_11
def msg_PutAsk (a : TAsk) : Option (List UInt8) := msg_PutAsk_k n_ (fun x => some x) a
theorem msg_PutAsk_bind {α : Type} (k0 : (List UInt8) → Option α) (a : TAsk) : msg_PutAsk_k n_ k0 a = (msg_PutAsk n_ a).bind k0 := by
  unfold msg_PutAsk msg_PutAsk_k; simp only [bind_cond, Option.bind_assoc, alt_bind, Option.bind_some, Option.bind_none, alt_inl, alt_inr]

/-! tenancy/bits.front -/
@[reducible] def bits_front_k {α : Type} (k0 : (List UInt8) → Option α) (k1 : Unit → Option α) (b : List UInt8) (n : Int) : Option α :=
  bif (decide ((b.length : Int) < n)) then k1 ()
  else bif (cutOk 0 n b.length) then k0 (cutL b 0 n)
    else none
def bits_front (b : List UInt8) (n : Int) : Option ((List UInt8) ⊕ Unit) := bits_front_k (fun x => some (.inl x)) (fun x => some (.inr x)) b n
theorem bits_front_bind {α : Type} (k0 : (List UInt8) → Option α) (k1 : Unit → Option α) (b : List UInt8) (n : Int) : bits_front_k k0 k1 b n = (bits_front b n).bind (fun s0_ => alt s0_ k0 k1) := by
  unfold bits_front bits_front_k; simp only [bind_cond, Option.bind_assoc, alt_bind, Option.bind_some, Option.bind_none, alt_inl, alt_inr]

/-! tenancy/bits.Take -/
@[reducible] def bits_Take_s0k {α : Type} (t16 : List UInt8) (t17 : Int) (ok : Bool) (kc : (Int × Int) → Option α) (k0 : Int → Option α) (v : Int) (t18 : Int) : Option α :=
  bif (decide (t18 < t17)) then (bif (inR t18 t16.length) then (((t16[t18.toNat]?)).bind fun y_1 =>
      kc ((bor .i64 (shlI .i64 v 8) (wi64 (i8 y_1))), (wi64 (t18 + 1))))
    else none)
  else k0 v
def bits_Take_s0 (t16 : List UInt8) (t17 : Int) (ok : Bool) (v_ : Int × Int) : Option ((Int × Int) ⊕ Int) := bits_Take_s0k t16 t17 ok (fun x => some (.inl x)) (fun x => some (.inr x)) v_.1 v_.2
def bits_Take_l0 (t16 : List UInt8) (t17 : Int) (ok : Bool) (v : Int) (t18 : Int) : Option Int := iter (bits_Take_s0 t16 t17 ok) n_ (v, t18)
theorem bits_Take_s0_bind {α : Type} (t16 : List UInt8) (t17 : Int) (ok : Bool) (kc : (Int × Int) → Option α) (k0 : Int → Option α) (v : Int) (t18 : Int) : bits_Take_s0k t16 t17 ok kc k0 v t18 = (bits_Take_s0 t16 t17 ok (v, t18)).bind fun s_ => alt s_ kc k0 := by
  unfold bits_Take_s0 bits_Take_s0k; simp only [bind_cond, Option.bind_assoc, alt_bind, Option.bind_some, Option.bind_none, alt_inl, alt_inr]
@[reducible] def bits_Take_k {α : Type} (k0 : (Int × Bool) → Option α) (b : List UInt8) (n : Int) : Option α :=
  bif (decide (n < 1)) then k0 (0, false)
  else bif (decide (n > 7)) then k0 (0, false)
    else ((bits_front b n)).bind fun r_1 =>
      alt r_1 (fun a_2 =>
        ((bits_Take_l0 n_ a_2 (a_2.length : Int) false 0 0)).bind fun r_3 =>
        k0 (r_3, true)) (fun b_4 =>
        k0 (0, false))
def bits_Take (b : List UInt8) (n : Int) : Option (Int × Bool) := bits_Take_k n_ (fun x => some x) b n
theorem bits_Take_bind {α : Type} (k0 : (Int × Bool) → Option α) (b : List UInt8) (n : Int) : bits_Take_k n_ k0 b n = (bits_Take n_ b n).bind k0 := by
  unfold bits_Take bits_Take_k; simp only [bind_cond, Option.bind_assoc, alt_bind, Option.bind_some, Option.bind_none, alt_inl, alt_inr]

/-! (*tenancy/msg.reader).num -/
@[reducible] def msg_reader_num_k {α : Type} (k0 : (Int × Tmsg_reader) → Option α) (k1 : Unit → Option α) (n : Int) (r : Tmsg_reader) : Option α :=
  ((bits_Take n_ r.b n)).bind fun r_1 =>
  bif (!r_1.2) then k1 ()
  else bif (cutOk n (r.b.length : Int) r.b.length) then k0 (r_1.1, (Tmsg_reader.mk (cutL r.b n (r.b.length : Int))))
    else none
def msg_reader_num (n : Int) (r : Tmsg_reader) : Option ((Int × Tmsg_reader) ⊕ Unit) := msg_reader_num_k n_ (fun x => some (.inl x)) (fun x => some (.inr x)) n r
theorem msg_reader_num_bind {α : Type} (k0 : (Int × Tmsg_reader) → Option α) (k1 : Unit → Option α) (n : Int) (r : Tmsg_reader) : msg_reader_num_k n_ k0 k1 n r = (msg_reader_num n_ n r).bind (fun s0_ => alt s0_ k0 k1) := by
  unfold msg_reader_num msg_reader_num_k; simp only [bind_cond, Option.bind_assoc, alt_bind, Option.bind_some, Option.bind_none, alt_inl, alt_inr]

/-! tenancy/bits.TakeText -/
@[reducible] def bits_TakeText_k {α : Type} (k0 : (List UInt8 × Int × Bool) → Option α) (b : List UInt8) : Option α :=
  ((bits_front b 1)).bind fun r_1 =>
  alt r_1 (fun a_2 =>
    bif (inR 0 a_2.length) then (((a_2[0]?)).bind fun y_3 =>
      bif (decide ((b.length : Int) < (wi64 ((wi64 (i8 y_3)) + 1)))) then k0 ([], 0, false)
      else bif (cutOk 1 (wi64 ((wi64 (i8 y_3)) + 1)) b.length) then k0 ((cutL b 1 (wi64 ((wi64 (i8 y_3)) + 1))), (wi64 ((wi64 (i8 y_3)) + 1)), true)
        else none)
    else none) (fun b_4 =>
    k0 ([], 0, false))
def bits_TakeText (b : List UInt8) : Option (List UInt8 × Int × Bool) := bits_TakeText_k (fun x => some x) b
theorem bits_TakeText_bind {α : Type} (k0 : (List UInt8 × Int × Bool) → Option α) (b : List UInt8) : bits_TakeText_k k0 b = (bits_TakeText b).bind k0 := by
  unfold bits_TakeText bits_TakeText_k; simp only [bind_cond, Option.bind_assoc, alt_bind, Option.bind_some, Option.bind_none, alt_inl, alt_inr]

/-! (*tenancy/msg.reader).text -/
@[reducible] def msg_reader_text_k {α : Type} (k0 : (List UInt8 × Tmsg_reader) → Option α) (k1 : Unit → Option α) (r : Tmsg_reader) : Option α :=
  ((bits_TakeText r.b)).bind fun r_1 =>
  bif (!r_1.2.2) then k1 ()
  else bif (cutOk r_1.2.1 (r.b.length : Int) r.b.length) then k0 (r_1.1, (Tmsg_reader.mk (cutL r.b r_1.2.1 (r.b.length : Int))))
    else none
def msg_reader_text (r : Tmsg_reader) : Option ((List UInt8 × Tmsg_reader) ⊕ Unit) := msg_reader_text_k (fun x => some (.inl x)) (fun x => some (.inr x)) r
theorem msg_reader_text_bind {α : Type} (k0 : (List UInt8 × Tmsg_reader) → Option α) (k1 : Unit → Option α) (r : Tmsg_reader) : msg_reader_text_k k0 k1 r = (msg_reader_text r).bind (fun s0_ => alt s0_ k0 k1) := by
  unfold msg_reader_text msg_reader_text_k; simp only [bind_cond, Option.bind_assoc, alt_bind, Option.bind_some, Option.bind_none, alt_inl, alt_inr]

/-! (*tenancy/msg.reader).ask -/
@[reducible] def msg_reader_ask_s0k {α : Type} (kc : (Int × Tmsg_reader × TAsk) → Option α) (k0 : (Tmsg_reader × TAsk) → Option α) (k1 : (Tmsg_reader × TAsk × TWrite) → Option α) (k2 : (Tmsg_reader × TAsk) → Option α) (n : Int) (r : Tmsg_reader) (a : TAsk) : Option α :=
  bif (decide (n > 0)) then (((msg_reader_num n_ 1 r)).bind fun r_1 =>
    alt r_1 (fun a_2 =>
      ((msg_reader_text a_2.2)).bind fun r_3 =>
      alt r_3 (fun a_4 =>
        bif (decide ((a.Writes.length + 1) ≤ lim)) then kc ((wi64 (n - 1)), a_4.2, (TAsk.mk a.Kind a.From a.Epoch a.Seq a.Name a.File a.Mode (a.Writes ++ [(TWrite.mk a_2.1 a_4.1)])))
        else none) (fun b_5 =>
        k1 (a_2.2, a, (TWrite.mk a_2.1 [])))) (fun b_6 =>
      k0 (r, a)))
  else k2 (r, a)
def msg_reader_ask_s0 (v_ : Int × Tmsg_reader × TAsk) : Option ((Int × Tmsg_reader × TAsk) ⊕ ((Tmsg_reader × TAsk) ⊕ ((Tmsg_reader × TAsk × TWrite) ⊕ (Tmsg_reader × TAsk)))) := msg_reader_ask_s0k n_ (fun x => some (.inl x)) (fun x => some (.inr (.inl x))) (fun x => some (.inr (.inr (.inl x)))) (fun x => some (.inr (.inr (.inr x)))) v_.1 v_.2.1 v_.2.2
def msg_reader_ask_l0 (n : Int) (r : Tmsg_reader) (a : TAsk) : Option ((Tmsg_reader × TAsk) ⊕ ((Tmsg_reader × TAsk × TWrite) ⊕ (Tmsg_reader × TAsk))) := iter (msg_reader_ask_s0 n_) n_ (n, r, a)
theorem msg_reader_ask_s0_bind {α : Type} (kc : (Int × Tmsg_reader × TAsk) → Option α) (k0 : (Tmsg_reader × TAsk) → Option α) (k1 : (Tmsg_reader × TAsk × TWrite) → Option α) (k2 : (Tmsg_reader × TAsk) → Option α) (n : Int) (r : Tmsg_reader) (a : TAsk) : msg_reader_ask_s0k n_ kc k0 k1 k2 n r a = (msg_reader_ask_s0 n_ (n, r, a)).bind fun s_ => alt s_ kc (fun s0_ => alt s0_ k0 (fun s1_ => alt s1_ k1 k2)) := by
  unfold msg_reader_ask_s0 msg_reader_ask_s0k; simp only [bind_cond, Option.bind_assoc, alt_bind, Option.bind_some, Option.bind_none, alt_inl, alt_inr]
@[reducible] def msg_reader_ask_k {α : Type} (k0 : (TAsk × Tmsg_reader) → Option α) (k1 : Tmsg_reader → Option α) (r : Tmsg_reader) : Option α :=
  ((msg_reader_num n_ 1 r)).bind fun r_1 =>
  alt r_1 (fun a_2 =>
    ((msg_reader_num n_ 1 a_2.2)).bind fun r_3 =>
    alt r_3 (fun a_4 =>
      ((msg_reader_num n_ 4 a_4.2)).bind fun r_5 =>
      alt r_5 (fun a_6 =>
        ((msg_reader_num n_ 4 a_6.2)).bind fun r_7 =>
        alt r_7 (fun a_8 =>
          ((msg_reader_text a_8.2)).bind fun r_9 =>
          alt r_9 (fun a_10 =>
            ((msg_reader_num n_ 1 a_10.2)).bind fun r_11 =>
            alt r_11 (fun a_12 =>
              ((msg_reader_num n_ 1 a_12.2)).bind fun r_13 =>
              alt r_13 (fun a_14 =>
                ((msg_reader_num n_ 1 a_14.2)).bind fun r_15 =>
                alt r_15 (fun a_16 =>
                  ((msg_reader_ask_l0 n_ a_16.1 a_16.2 (TAsk.mk a_2.1 a_4.1 a_6.1 a_8.1 a_10.1 a_12.1 a_14.1 []))).bind fun r_17 =>
                  alt r_17 (fun a_18 =>
                    k1 a_18.1) (fun b_19 =>
                    alt b_19 (fun a_20 =>
                      k1 a_20.1) (fun b_21 =>
                      k0 (b_21.2, b_21.1)))) (fun b_22 =>
                  k1 a_14.2)) (fun b_23 =>
                k1 a_12.2)) (fun b_24 =>
              k1 a_10.2)) (fun b_25 =>
            k1 a_8.2)) (fun b_26 =>
          k1 a_6.2)) (fun b_27 =>
        k1 a_4.2)) (fun b_28 =>
      k1 a_2.2)) (fun b_29 =>
    k1 r)
def msg_reader_ask (r : Tmsg_reader) : Option ((TAsk × Tmsg_reader) ⊕ Tmsg_reader) := msg_reader_ask_k n_ (fun x => some (.inl x)) (fun x => some (.inr x)) r
theorem msg_reader_ask_bind {α : Type} (k0 : (TAsk × Tmsg_reader) → Option α) (k1 : Tmsg_reader → Option α) (r : Tmsg_reader) : msg_reader_ask_k n_ k0 k1 r = (msg_reader_ask n_ r).bind (fun s0_ => alt s0_ k0 k1) := by
  unfold msg_reader_ask msg_reader_ask_k; simp only [bind_cond, Option.bind_assoc, alt_bind, Option.bind_some, Option.bind_none, alt_inl, alt_inr]

/-! slices.Equal[[]byte,byte] -/
@[reducible] def slices_Equal_byte_s0k {α : Type} (s1 : List UInt8) (s2 : List UInt8) (t12 : Int) (kc : Int → Option α) (k0 : Unit → Option α) (k1 : Unit → Option α) (t13 : Int) : Option α :=
  bif (decide (t13 < t12)) then (bif (inR t13 s1.length) then (((s1[t13.toNat]?)).bind fun y_1 =>
      bif (inR t13 s2.length) then (((s2[t13.toNat]?)).bind fun y_2 =>
        bif ((i8 y_1) != (i8 y_2)) then k0 ()
        else kc (wi64 (t13 + 1)))
      else none)
    else none)
  else k1 ()
def slices_Equal_byte_s0 (s1 : List UInt8) (s2 : List UInt8) (t12 : Int) (v_ : Int) : Option (Int ⊕ (Unit ⊕ Unit)) := slices_Equal_byte_s0k s1 s2 t12 (fun x => some (.inl x)) (fun x => some (.inr (.inl x))) (fun x => some (.inr (.inr x))) v_
def slices_Equal_byte_l0 (s1 : List UInt8) (s2 : List UInt8) (t12 : Int) (t13 : Int) : Option (Unit ⊕ Unit) := iter (slices_Equal_byte_s0 s1 s2 t12) n_ t13
theorem slices_Equal_byte_s0_bind {α : Type} (s1 : List UInt8) (s2 : List UInt8) (t12 : Int) (kc : Int → Option α) (k0 : Unit → Option α) (k1 : Unit → Option α) (t13 : Int) : slices_Equal_byte_s0k s1 s2 t12 kc k0 k1 t13 = (slices_Equal_byte_s0 s1 s2 t12 t13).bind fun s_ => alt s_ kc (fun s0_ => alt s0_ k0 k1) := by
  unfold slices_Equal_byte_s0 slices_Equal_byte_s0k; simp only [bind_cond, Option.bind_assoc, alt_bind, Option.bind_some, Option.bind_none, alt_inl, alt_inr]
@[reducible] def slices_Equal_byte_k {α : Type} (k0 : Bool → Option α) (s1 : List UInt8) (s2 : List UInt8) : Option α :=
  bif ((s1.length : Int) != (s2.length : Int)) then k0 false
  else ((slices_Equal_byte_l0 n_ s1 s2 (s1.length : Int) 0)).bind fun r_1 =>
    alt r_1 (fun a_2 =>
      k0 false) (fun b_3 =>
      k0 true)
def slices_Equal_byte (s1 : List UInt8) (s2 : List UInt8) : Option Bool := slices_Equal_byte_k n_ (fun x => some x) s1 s2
theorem slices_Equal_byte_bind {α : Type} (k0 : Bool → Option α) (s1 : List UInt8) (s2 : List UInt8) : slices_Equal_byte_k n_ k0 s1 s2 = (slices_Equal_byte n_ s1 s2).bind k0 := by
  unfold slices_Equal_byte slices_Equal_byte_k; simp only [bind_cond, Option.bind_assoc, alt_bind, Option.bind_some, Option.bind_none, alt_inl, alt_inr]

/-! tenancy/msg.takes[tenancy/api.Ask] -/
@[reducible] def msg_takes_Ask_k {α : Type} (k0 : (TAsk × Bool) → Option α) (b : List UInt8) : Option α :=
  ((msg_reader_ask n_ (Tmsg_reader.mk b))).bind fun r_1 =>
  alt r_1 (fun a_2 =>
    bif ((b.length : Int) == 0) then k0 ((TAsk.mk 0 0 0 0 [] 0 0 []), false)
    else ((msg_PutAsk n_ a_2.1)).bind fun r_3 =>
      ((slices_Equal_byte n_ r_3 b)).bind fun r_4 =>
      bif (!r_4) then k0 ((TAsk.mk 0 0 0 0 [] 0 0 []), false)
      else k0 (a_2.1, true)) (fun b_5 =>
    k0 ((TAsk.mk 0 0 0 0 [] 0 0 []), false))
def msg_takes_Ask (b : List UInt8) : Option (TAsk × Bool) := msg_takes_Ask_k n_ (fun x => some x) b
theorem msg_takes_Ask_bind {α : Type} (k0 : (TAsk × Bool) → Option α) (b : List UInt8) : msg_takes_Ask_k n_ k0 b = (msg_takes_Ask n_ b).bind k0 := by
  unfold msg_takes_Ask msg_takes_Ask_k; simp only [bind_cond, Option.bind_assoc, alt_bind, Option.bind_some, Option.bind_none, alt_inl, alt_inr]

/-! tenancy/msg.TakeAsk -/
@[reducible] def msg_TakeAsk_k {α : Type} (k0 : (TAsk × Bool) → Option α) (b : List UInt8) : Option α :=
  ((msg_takes_Ask n_ b)).bind fun r_1 =>
  k0 (r_1.1, r_1.2)
def msg_TakeAsk (b : List UInt8) : Option (TAsk × Bool) := msg_TakeAsk_k n_ (fun x => some x) b
theorem msg_TakeAsk_bind {α : Type} (k0 : (TAsk × Bool) → Option α) (b : List UInt8) : msg_TakeAsk_k n_ k0 b = (msg_TakeAsk n_ b).bind k0 := by
  unfold msg_TakeAsk msg_TakeAsk_k; simp only [bind_cond, Option.bind_assoc, alt_bind, Option.bind_some, Option.bind_none, alt_inl, alt_inr]

/-! tenancy/msg.MayTell -/
@[reducible] def msg_MayTell_k {α : Type} (k : Bool → α) (t : TTell) : α :=
  bif (!(msg_from 1 3 t.Kind)) then k false
  else bif (!(msg_from 1 3 t.To)) then k false
    else bif (!(msg_from 0 1073741824 t.Epoch)) then k false
      else bif (t.Kind == 2) then (bif (TTell.eqb t (TTell.mk t.Kind t.To t.Epoch 0 0 t.File 0 0 [])) then k (msg_from 1 6 t.File)
          else k false)
        else bif (t.Kind == 3) then k (TTell.eqb t (TTell.mk t.Kind t.To t.Epoch 0 0 0 0 0 []))
          else bif (msg_from 1 1073741824 t.Seq) then (bif (decide (t.Err ≥ 0)) then (bif (decide (t.Err ≤ 7)) then (bif (msg_from 0 6 t.File) then (bif (msg_from 0 2 t.Mode) then (bif (msg_from 0 1073741824 t.Ver) then k (decide ((t.Body.length : Int) ≤ 24))
                      else k false)
                    else k false)
                  else k false)
                else k false)
              else k false)
            else k false
def msg_MayTell (t : TTell) : Bool := msg_MayTell_k id t
theorem msg_MayTell_bind {α : Type} (k : Bool → α) (t : TTell) : msg_MayTell_k k t = k (msg_MayTell t) := by
  unfold msg_MayTell msg_MayTell_k; simp only [Bool.apply_cond k, id]

/-! tenancy/msg.PutTell -/
@[reducible] def msg_PutTell_k {α : Type} (k0 : (List UInt8) → Option α) (t : TTell) : Option α :=
  bif (!(msg_MayTell t)) then k0 ([])
  else ((bits_Put n_ [] t.Kind 1)).bind fun r_1 =>
    ((bits_Put n_ r_1 t.To 1)).bind fun r_2 =>
    ((bits_Put n_ r_2 t.Epoch 4)).bind fun r_3 =>
    ((bits_Put n_ r_3 t.Seq 4)).bind fun r_4 =>
    ((bits_Put n_ r_4 t.Err 1)).bind fun r_5 =>
    ((bits_Put n_ r_5 t.File 1)).bind fun r_6 =>
    ((bits_Put n_ r_6 t.Mode 1)).bind fun r_7 =>
    ((bits_Put n_ r_7 t.Ver 4)).bind fun r_8 =>
    ((bits_Text r_8 t.Body)).bind fun r_9 =>
    ((msg_sealed n_ r_9)).bind fun r_10 =>
    k0 r_10
def msg_PutTell (t : TTell) : Option (List UInt8) := msg_PutTell_k n_ (fun x => some x) t
theorem msg_PutTell_bind {α : Type} (k0 : (List UInt8) → Option α) (t : TTell) : msg_PutTell_k n_ k0 t = (msg_PutTell n_ t).bind k0 := by
  unfold msg_PutTell msg_PutTell_k; simp only [bind_cond, Option.bind_assoc, alt_bind, Option.bind_some, Option.bind_none, alt_inl, alt_inr]

/-! (*tenancy/msg.reader).tell -/
@[reducible] def msg_reader_tell_k {α : Type} (k0 : (TTell × Tmsg_reader) → Option α) (k1 : Tmsg_reader → Option α) (r : Tmsg_reader) : Option α :=
  ((msg_reader_num n_ 1 r)).bind fun r_1 =>
  alt r_1 (fun a_2 =>
    ((msg_reader_num n_ 1 a_2.2)).bind fun r_3 =>
    alt r_3 (fun a_4 =>
      ((msg_reader_num n_ 4 a_4.2)).bind fun r_5 =>
      alt r_5 (fun a_6 =>
        ((msg_reader_num n_ 4 a_6.2)).bind fun r_7 =>
        alt r_7 (fun a_8 =>
          ((msg_reader_num n_ 1 a_8.2)).bind fun r_9 =>
          alt r_9 (fun a_10 =>
            ((msg_reader_num n_ 1 a_10.2)).bind fun r_11 =>
            alt r_11 (fun a_12 =>
              ((msg_reader_num n_ 1 a_12.2)).bind fun r_13 =>
              alt r_13 (fun a_14 =>
                ((msg_reader_num n_ 4 a_14.2)).bind fun r_15 =>
                alt r_15 (fun a_16 =>
                  ((msg_reader_text a_16.2)).bind fun r_17 =>
                  alt r_17 (fun a_18 =>
                    k0 ((TTell.mk a_2.1 a_4.1 a_6.1 a_8.1 a_10.1 a_12.1 a_14.1 a_16.1 a_18.1), a_18.2)) (fun b_19 =>
                    k1 a_16.2)) (fun b_20 =>
                  k1 a_14.2)) (fun b_21 =>
                k1 a_12.2)) (fun b_22 =>
              k1 a_10.2)) (fun b_23 =>
            k1 a_8.2)) (fun b_24 =>
          k1 a_6.2)) (fun b_25 =>
        k1 a_4.2)) (fun b_26 =>
      k1 a_2.2)) (fun b_27 =>
    k1 r)
def msg_reader_tell (r : Tmsg_reader) : Option ((TTell × Tmsg_reader) ⊕ Tmsg_reader) := msg_reader_tell_k n_ (fun x => some (.inl x)) (fun x => some (.inr x)) r
theorem msg_reader_tell_bind {α : Type} (k0 : (TTell × Tmsg_reader) → Option α) (k1 : Tmsg_reader → Option α) (r : Tmsg_reader) : msg_reader_tell_k n_ k0 k1 r = (msg_reader_tell n_ r).bind (fun s0_ => alt s0_ k0 k1) := by
  unfold msg_reader_tell msg_reader_tell_k; simp only [bind_cond, Option.bind_assoc, alt_bind, Option.bind_some, Option.bind_none, alt_inl, alt_inr]

/-! tenancy/msg.takes[tenancy/api.Tell] -/
@[reducible] def msg_takes_Tell_k {α : Type} (k0 : (TTell × Bool) → Option α) (b : List UInt8) : Option α :=
  ((msg_reader_tell n_ (Tmsg_reader.mk b))).bind fun r_1 =>
  alt r_1 (fun a_2 =>
    bif ((b.length : Int) == 0) then k0 ((TTell.mk 0 0 0 0 0 0 0 0 []), false)
    else ((msg_PutTell n_ a_2.1)).bind fun r_3 =>
      ((slices_Equal_byte n_ r_3 b)).bind fun r_4 =>
      bif (!r_4) then k0 ((TTell.mk 0 0 0 0 0 0 0 0 []), false)
      else k0 (a_2.1, true)) (fun b_5 =>
    k0 ((TTell.mk 0 0 0 0 0 0 0 0 []), false))
def msg_takes_Tell (b : List UInt8) : Option (TTell × Bool) := msg_takes_Tell_k n_ (fun x => some x) b
theorem msg_takes_Tell_bind {α : Type} (k0 : (TTell × Bool) → Option α) (b : List UInt8) : msg_takes_Tell_k n_ k0 b = (msg_takes_Tell n_ b).bind k0 := by
  unfold msg_takes_Tell msg_takes_Tell_k; simp only [bind_cond, Option.bind_assoc, alt_bind, Option.bind_some, Option.bind_none, alt_inl, alt_inr]

/-! tenancy/msg.TakeTell -/
@[reducible] def msg_TakeTell_k {α : Type} (k0 : (TTell × Bool) → Option α) (b : List UInt8) : Option α :=
  ((msg_takes_Tell n_ b)).bind fun r_1 =>
  k0 (r_1.1, r_1.2)
def msg_TakeTell (b : List UInt8) : Option (TTell × Bool) := msg_TakeTell_k n_ (fun x => some x) b
theorem msg_TakeTell_bind {α : Type} (k0 : (TTell × Bool) → Option α) (b : List UInt8) : msg_TakeTell_k n_ k0 b = (msg_TakeTell n_ b).bind k0 := by
  unfold msg_TakeTell msg_TakeTell_k; simp only [bind_cond, Option.bind_assoc, alt_bind, Option.bind_some, Option.bind_none, alt_inl, alt_inr]

/-! tenancy/tenancylaw16.begun -/
@[reducible] def law16_begun_k {α : Type} (k0 : Bool → Option α) : Option α :=
  ((msg_PutAsk n_ (TAsk.mk 2 1 0 2 [] 3 1 []))).bind fun r_1 =>
  ((msg_TakeAsk n_ r_1)).bind fun r_2 =>
  ((msg_PutTell n_ (TTell.mk 2 1 0 0 0 3 0 0 []))).bind fun r_3 =>
  ((msg_TakeTell n_ r_3)).bind fun r_4 =>
  ((msg_TakeAsk n_ [])).bind fun r_5 =>
  ((msg_TakeTell n_ [])).bind fun r_6 =>
  ((msg_MayAsk n_ (TAsk.mk 2 1 0 2 [] 3 1 []))).bind fun r_7 =>
  bif r_7 then (((msg_MayAsk n_ (TAsk.mk 0 0 0 0 [] 0 0 []))).bind fun r_8 =>
    bif (!r_8) then (bif (msg_MayTell (TTell.mk 2 1 0 0 0 3 0 0 [])) then (bif (!(msg_MayTell (TTell.mk 0 0 0 0 0 0 0 0 []))) then (bif r_2.2 then (((msg_SameAsk n_ r_2.1 (TAsk.mk 2 1 0 2 [] 3 1 []))).bind fun r_9 =>
            bif r_9 then (bif r_4.2 then (bif (TTell.eqb r_4.1 (TTell.mk 2 1 0 0 0 3 0 0 [])) then (bif (!r_5.2) then k0 (!r_6.2)
                  else k0 false)
                else k0 false)
              else k0 false)
            else k0 false)
          else k0 false)
        else k0 false)
      else k0 false)
    else k0 false)
  else k0 false
def law16_begun : Option Bool := law16_begun_k n_ (fun x => some x)
theorem law16_begun_bind {α : Type} (k0 : Bool → Option α) : law16_begun_k n_ k0 = (law16_begun n_).bind k0 := by
  unfold law16_begun law16_begun_k; simp only [bind_cond, Option.bind_assoc, alt_bind, Option.bind_some, Option.bind_none, alt_inl, alt_inr]

/-! tenancy/tenancylaw16.Light -/
@[reducible] def law16_Light_s0k {α : Type} (a : TAsk) (kc : Int → Option α) (k0 : Unit → Option α) (k1 : Unit → Option α) (i : Int) : Option α :=
  bif (decide (i < (a.Writes.length : Int))) then (bif (inR i a.Writes.length) then (((a.Writes[i.toNat]?)).bind fun y_1 =>
      bif (decide ((y_1.B.length : Int) > 40)) then k0 ()
      else kc (wi64 (i + 1)))
    else none)
  else k1 ()
def law16_Light_s0 (a : TAsk) (v_ : Int) : Option (Int ⊕ (Unit ⊕ Unit)) := law16_Light_s0k a (fun x => some (.inl x)) (fun x => some (.inr (.inl x))) (fun x => some (.inr (.inr x))) v_
def law16_Light_l0 (a : TAsk) (i : Int) : Option (Unit ⊕ Unit) := iter (law16_Light_s0 a) n_ i
theorem law16_Light_s0_bind {α : Type} (a : TAsk) (kc : Int → Option α) (k0 : Unit → Option α) (k1 : Unit → Option α) (i : Int) : law16_Light_s0k a kc k0 k1 i = (law16_Light_s0 a i).bind fun s_ => alt s_ kc (fun s0_ => alt s0_ k0 k1) := by
  unfold law16_Light_s0 law16_Light_s0k; simp only [bind_cond, Option.bind_assoc, alt_bind, Option.bind_some, Option.bind_none, alt_inl, alt_inr]
@[reducible] def law16_Light_k {α : Type} (k0 : Bool → Option α) (a : TAsk) : Option α :=
  ((law16_Light_l0 n_ a 0)).bind fun r_1 =>
  alt r_1 (fun a_2 =>
    k0 false) (fun b_3 =>
    bif (decide ((a.Writes.length : Int) ≤ 8)) then k0 (decide ((a.Name.length : Int) ≤ 40))
    else k0 false)
def law16_Light (a : TAsk) : Option Bool := law16_Light_k n_ (fun x => some x) a
theorem law16_Light_bind {α : Type} (k0 : Bool → Option α) (a : TAsk) : law16_Light_k n_ k0 a = (law16_Light n_ a).bind k0 := by
  unfold law16_Light law16_Light_k; simp only [bind_cond, Option.bind_assoc, alt_bind, Option.bind_some, Option.bind_none, alt_inl, alt_inr]

/-! tenancy/tenancymade.Made -/
@[reducible] def made_Made_k {α : Type} (k : Ttenancymade_Picks → α) (l : List UInt8) : α :=
  k (Ttenancymade_Picks.mk l 0)
def made_Made (l : List UInt8) : Ttenancymade_Picks := made_Made_k id l
theorem made_Made_bind {α : Type} (k : Ttenancymade_Picks → α) (l : List UInt8) : made_Made_k k l = k (made_Made l) := by
  unfold made_Made made_Made_k; simp only [Bool.apply_cond k, id]

/-! (*tenancy/tenancymade.Picks).Num -/
@[reducible] def made_Picks_Num_k {α : Type} (k0 : (Int × Ttenancymade_Picks) → Option α) (m : Int) (p : Ttenancymade_Picks) : Option α :=
  bif (decide (p.n ≥ (p.l.length : Int))) then k0 (0, p)
  else bif (decide (m < 1)) then k0 (0, p)
    else bif (inR (wi64 ((wi64 (p.n + 1)) - 1)) p.l.length) then (((p.l[(wi64 ((wi64 (p.n + 1)) - 1)).toNat]?)).bind fun y_1 =>
        bif (m == 0) then none
        else k0 (((wi64 (i8 y_1)).tmod m), (Ttenancymade_Picks.mk p.l (wi64 (p.n + 1)))))
      else none
def made_Picks_Num (m : Int) (p : Ttenancymade_Picks) : Option (Int × Ttenancymade_Picks) := made_Picks_Num_k (fun x => some x) m p
theorem made_Picks_Num_bind {α : Type} (k0 : (Int × Ttenancymade_Picks) → Option α) (m : Int) (p : Ttenancymade_Picks) : made_Picks_Num_k k0 m p = (made_Picks_Num m p).bind k0 := by
  unfold made_Picks_Num made_Picks_Num_k; simp only [bind_cond, Option.bind_assoc, alt_bind, Option.bind_some, Option.bind_none, alt_inl, alt_inr]

/-! (*tenancy/tenancymade.Picks).Write -/
@[reducible] def made_Picks_Write_k {α : Type} (k0 : (TWrite × Ttenancymade_Picks) → Option α) (p : Ttenancymade_Picks) : Option α :=
  ((made_Picks_Num 10 p)).bind fun r_1 =>
  ((made_Picks_Num 6 r_1.2)).bind fun r_2 =>
  bif (inR r_2.1 6) then ((([[120], [121, 122], [104, 101, 108, 108, 111], [48], [97, 98, 0, 99, 100], [102, 111, 117, 114, 116, 101, 101, 110, 32, 98, 121, 116, 101, 115]][r_2.1.toNat]?)).bind fun y_3 =>
    k0 ((TWrite.mk r_1.1 y_3), r_2.2))
  else none
def made_Picks_Write (p : Ttenancymade_Picks) : Option (TWrite × Ttenancymade_Picks) := made_Picks_Write_k (fun x => some x) p
theorem made_Picks_Write_bind {α : Type} (k0 : (TWrite × Ttenancymade_Picks) → Option α) (p : Ttenancymade_Picks) : made_Picks_Write_k k0 p = (made_Picks_Write p).bind k0 := by
  unfold made_Picks_Write made_Picks_Write_k; simp only [bind_cond, Option.bind_assoc, alt_bind, Option.bind_some, Option.bind_none, alt_inl, alt_inr]

/-! (*tenancy/tenancymade.Picks).Writes -/
@[reducible] def made_Picks_Writes_s0k {α : Type} (kc : (Int × Ttenancymade_Picks × List TWrite) → Option α) (k0 : (Ttenancymade_Picks × List TWrite) → Option α) (i : Int) (p : Ttenancymade_Picks) (l : List TWrite) : Option α :=
  bif (decide (i > 0)) then (((made_Picks_Write p)).bind fun r_1 =>
    bif (decide ((l.length + 1) ≤ lim)) then kc ((wi64 (i - 1)), r_1.2, (l ++ [r_1.1]))
    else none)
  else k0 (p, l)
def made_Picks_Writes_s0 (v_ : Int × Ttenancymade_Picks × List TWrite) : Option ((Int × Ttenancymade_Picks × List TWrite) ⊕ (Ttenancymade_Picks × List TWrite)) := made_Picks_Writes_s0k (fun x => some (.inl x)) (fun x => some (.inr x)) v_.1 v_.2.1 v_.2.2
def made_Picks_Writes_l0 (i : Int) (p : Ttenancymade_Picks) (l : List TWrite) : Option (Ttenancymade_Picks × List TWrite) := iter (made_Picks_Writes_s0) n_ (i, p, l)
theorem made_Picks_Writes_s0_bind {α : Type} (kc : (Int × Ttenancymade_Picks × List TWrite) → Option α) (k0 : (Ttenancymade_Picks × List TWrite) → Option α) (i : Int) (p : Ttenancymade_Picks) (l : List TWrite) : made_Picks_Writes_s0k kc k0 i p l = (made_Picks_Writes_s0 (i, p, l)).bind fun s_ => alt s_ kc k0 := by
  unfold made_Picks_Writes_s0 made_Picks_Writes_s0k; simp only [bind_cond, Option.bind_assoc, alt_bind, Option.bind_some, Option.bind_none, alt_inl, alt_inr]
@[reducible] def made_Picks_Writes_k {α : Type} (k0 : (Ttenancymade_Picks × List TWrite) → Option α) (most : Int) (p : Ttenancymade_Picks) : Option α :=
  ((made_Picks_Num (wi64 (most + 1)) p)).bind fun r_1 =>
  ((made_Picks_Writes_l0 n_ r_1.1 r_1.2 [])).bind fun r_2 =>
  k0 (r_2.1, r_2.2)
def made_Picks_Writes (most : Int) (p : Ttenancymade_Picks) : Option (Ttenancymade_Picks × List TWrite) := made_Picks_Writes_k n_ (fun x => some x) most p
theorem made_Picks_Writes_bind {α : Type} (k0 : (Ttenancymade_Picks × List TWrite) → Option α) (most : Int) (p : Ttenancymade_Picks) : made_Picks_Writes_k n_ k0 most p = (made_Picks_Writes n_ most p).bind k0 := by
  unfold made_Picks_Writes made_Picks_Writes_k; simp only [bind_cond, Option.bind_assoc, alt_bind, Option.bind_some, Option.bind_none, alt_inl, alt_inr]

/-! (*tenancy/tenancymade.Picks).Ask -/
@[reducible] def made_Picks_Ask_k {α : Type} (k0 : (TAsk × Ttenancymade_Picks) → Option α) (p : Ttenancymade_Picks) : Option α :=
  ((made_Picks_Num 5 p)).bind fun r_1 =>
  ((made_Picks_Num 3 r_1.2)).bind fun r_2 =>
  ((made_Picks_Num 3 r_2.2)).bind fun r_3 =>
  ((made_Picks_Num 20 r_3.2)).bind fun r_4 =>
  bif ((wi64 (1 + r_1.1)) == 1) then (((made_Picks_Num 4 r_4.2)).bind fun r_5 =>
    bif (inR r_5.1 4) then ((([[97], [98], [110, 111, 116, 101, 115], [99]][r_5.1.toNat]?)).bind fun y_6 =>
      k0 ((TAsk.mk (wi64 (1 + r_1.1)) (wi64 (1 + r_2.1)) r_3.1 (wi64 (1 + r_4.1)) y_6 0 0 []), r_5.2))
    else none)
  else bif ((wi64 (1 + r_1.1)) == 2) then (((made_Picks_Num 2 r_4.2)).bind fun r_7 =>
      ((made_Picks_Num 6 r_7.2)).bind fun r_8 =>
      k0 ((TAsk.mk (wi64 (1 + r_1.1)) (wi64 (1 + r_2.1)) r_3.1 (wi64 (1 + r_4.1)) [] (wi64 (1 + r_8.1)) (wi64 (1 + r_7.1)) []), r_8.2))
    else bif ((wi64 (1 + r_1.1)) == 3) then (((made_Picks_Writes n_ 4 r_4.2)).bind fun r_9 =>
        ((made_Picks_Write r_9.1)).bind fun r_10 =>
        bif (decide ((r_9.2.length + 1) ≤ lim)) then (((made_Picks_Num 6 r_10.2)).bind fun r_11 =>
          k0 ((TAsk.mk (wi64 (1 + r_1.1)) (wi64 (1 + r_2.1)) r_3.1 (wi64 (1 + r_4.1)) [] (wi64 (1 + r_11.1)) 0 (r_9.2 ++ [r_10.1])), r_11.2))
        else none)
      else bif ((wi64 (1 + r_1.1)) == 4) then (((made_Picks_Writes n_ 5 r_4.2)).bind fun r_12 =>
          ((made_Picks_Num 6 r_12.1)).bind fun r_13 =>
          k0 ((TAsk.mk (wi64 (1 + r_1.1)) (wi64 (1 + r_2.1)) r_3.1 (wi64 (1 + r_4.1)) [] (wi64 (1 + r_13.1)) 0 r_12.2), r_13.2))
        else ((made_Picks_Num 6 r_4.2)).bind fun r_14 =>
          k0 ((TAsk.mk (wi64 (1 + r_1.1)) (wi64 (1 + r_2.1)) r_3.1 (wi64 (1 + r_4.1)) [] (wi64 (1 + r_14.1)) 0 []), r_14.2)
def made_Picks_Ask (p : Ttenancymade_Picks) : Option (TAsk × Ttenancymade_Picks) := made_Picks_Ask_k n_ (fun x => some x) p
theorem made_Picks_Ask_bind {α : Type} (k0 : (TAsk × Ttenancymade_Picks) → Option α) (p : Ttenancymade_Picks) : made_Picks_Ask_k n_ k0 p = (made_Picks_Ask n_ p).bind k0 := by
  unfold made_Picks_Ask made_Picks_Ask_k; simp only [bind_cond, Option.bind_assoc, alt_bind, Option.bind_some, Option.bind_none, alt_inl, alt_inr]

/-! (*tenancy/tenancymade.Picks).Tell -/
@[reducible] def made_Picks_Tell_k {α : Type} (k0 : (TTell × Ttenancymade_Picks) → Option α) (p : Ttenancymade_Picks) : Option α :=
  ((made_Picks_Num 3 p)).bind fun r_1 =>
  ((made_Picks_Num 3 r_1.2)).bind fun r_2 =>
  ((made_Picks_Num 3 r_2.2)).bind fun r_3 =>
  bif ((wi64 (1 + r_1.1)) == 1) then (((made_Picks_Num 20 r_3.2)).bind fun r_4 =>
    ((made_Picks_Num 8 r_4.2)).bind fun r_5 =>
    ((made_Picks_Num 7 r_5.2)).bind fun r_6 =>
    ((made_Picks_Num 3 r_6.2)).bind fun r_7 =>
    ((made_Picks_Num 300 r_7.2)).bind fun r_8 =>
    ((made_Picks_Num 3 r_8.2)).bind fun r_9 =>
    bif (inR r_9.1 3) then ((([[], [98, 111, 100, 121], [97, 0, 98]][r_9.1.toNat]?)).bind fun y_10 =>
      k0 ((TTell.mk (wi64 (1 + r_1.1)) (wi64 (1 + r_2.1)) r_3.1 (wi64 (1 + r_4.1)) r_5.1 r_6.1 r_7.1 r_8.1 y_10), r_9.2))
    else none)
  else bif ((wi64 (1 + r_1.1)) == 2) then (((made_Picks_Num 6 r_3.2)).bind fun r_11 =>
      k0 ((TTell.mk (wi64 (1 + r_1.1)) (wi64 (1 + r_2.1)) r_3.1 0 0 (wi64 (1 + r_11.1)) 0 0 []), r_11.2))
    else k0 ((TTell.mk (wi64 (1 + r_1.1)) (wi64 (1 + r_2.1)) r_3.1 0 0 0 0 0 []), r_3.2)
def made_Picks_Tell (p : Ttenancymade_Picks) : Option (TTell × Ttenancymade_Picks) := made_Picks_Tell_k (fun x => some x) p
theorem made_Picks_Tell_bind {α : Type} (k0 : (TTell × Ttenancymade_Picks) → Option α) (p : Ttenancymade_Picks) : made_Picks_Tell_k k0 p = (made_Picks_Tell p).bind k0 := by
  unfold made_Picks_Tell made_Picks_Tell_k; simp only [bind_cond, Option.bind_assoc, alt_bind, Option.bind_some, Option.bind_none, alt_inl, alt_inr]

/-! tenancy/tenancyref13.num -/
@[reducible] def ref13_num_k {α : Type} (k : Bool → α) (n : Int) (least : Int) : α :=
  bif (decide (n ≥ least)) then k (decide (n ≤ 1073741824))
  else k false
def ref13_num (n : Int) (least : Int) : Bool := ref13_num_k id n least
theorem ref13_num_bind {α : Type} (k : Bool → α) (n : Int) (least : Int) : ref13_num_k k n least = k (ref13_num n least) := by
  unfold ref13_num ref13_num_k; simp only [Bool.apply_cond k, id]

/-! tenancy/tenancyref7.MayName -/
@[reducible] def ref7_MayName_s0k {α : Type} (s : List UInt8) (kc : Int → Option α) (k0 : Unit → Option α) (k1 : Unit → Option α) (i : Int) : Option α :=
  bif (decide (i < (s.length : Int))) then (bif (inR i s.length) then (((s[i.toNat]?)).bind fun y_1 =>
      bif (decide ((i8 y_1) < 33)) then k0 ()
      else bif (inR i s.length) then (((s[i.toNat]?)).bind fun y_2 =>
          bif (decide ((i8 y_2) > 126)) then k0 ()
          else kc (wi64 (i + 1)))
        else none)
    else none)
  else k1 ()
def ref7_MayName_s0 (s : List UInt8) (v_ : Int) : Option (Int ⊕ (Unit ⊕ Unit)) := ref7_MayName_s0k s (fun x => some (.inl x)) (fun x => some (.inr (.inl x))) (fun x => some (.inr (.inr x))) v_
def ref7_MayName_l0 (s : List UInt8) (i : Int) : Option (Unit ⊕ Unit) := iter (ref7_MayName_s0 s) n_ i
theorem ref7_MayName_s0_bind {α : Type} (s : List UInt8) (kc : Int → Option α) (k0 : Unit → Option α) (k1 : Unit → Option α) (i : Int) : ref7_MayName_s0k s kc k0 k1 i = (ref7_MayName_s0 s i).bind fun s_ => alt s_ kc (fun s0_ => alt s0_ k0 k1) := by
  unfold ref7_MayName_s0 ref7_MayName_s0k; simp only [bind_cond, Option.bind_assoc, alt_bind, Option.bind_some, Option.bind_none, alt_inl, alt_inr]
@[reducible] def ref7_MayName_k {α : Type} (k0 : Bool → Option α) (s : List UInt8) : Option α :=
  ((ref7_MayName_l0 n_ s 0)).bind fun r_1 =>
  alt r_1 (fun a_2 =>
    k0 false) (fun b_3 =>
    bif (decide ((s.length : Int) ≥ 1)) then k0 (decide ((s.length : Int) ≤ 8))
    else k0 false)
def ref7_MayName (s : List UInt8) : Option Bool := ref7_MayName_k n_ (fun x => some x) s
theorem ref7_MayName_bind {α : Type} (k0 : Bool → Option α) (s : List UInt8) : ref7_MayName_k n_ k0 s = (ref7_MayName n_ s).bind k0 := by
  unfold ref7_MayName ref7_MayName_k; simp only [bind_cond, Option.bind_assoc, alt_bind, Option.bind_some, Option.bind_none, alt_inl, alt_inr]

/-! tenancy/tenancyref7.SameWrites -/
@[reducible] def ref7_SameWrites_s0k {α : Type} (a : List TWrite) (b : List TWrite) (kc : Int → Option α) (k0 : Unit → Option α) (k1 : Unit → Option α) (i : Int) : Option α :=
  bif (decide (i < (a.length : Int))) then (bif (inR i a.length) then (((a[i.toNat]?)).bind fun y_1 =>
      bif (inR i b.length) then (((b[i.toNat]?)).bind fun y_2 =>
        bif (!(TWrite.eqb y_1 y_2)) then k0 ()
        else kc (wi64 (i + 1)))
      else none)
    else none)
  else k1 ()
def ref7_SameWrites_s0 (a : List TWrite) (b : List TWrite) (v_ : Int) : Option (Int ⊕ (Unit ⊕ Unit)) := ref7_SameWrites_s0k a b (fun x => some (.inl x)) (fun x => some (.inr (.inl x))) (fun x => some (.inr (.inr x))) v_
def ref7_SameWrites_l0 (a : List TWrite) (b : List TWrite) (i : Int) : Option (Unit ⊕ Unit) := iter (ref7_SameWrites_s0 a b) n_ i
theorem ref7_SameWrites_s0_bind {α : Type} (a : List TWrite) (b : List TWrite) (kc : Int → Option α) (k0 : Unit → Option α) (k1 : Unit → Option α) (i : Int) : ref7_SameWrites_s0k a b kc k0 k1 i = (ref7_SameWrites_s0 a b i).bind fun s_ => alt s_ kc (fun s0_ => alt s0_ k0 k1) := by
  unfold ref7_SameWrites_s0 ref7_SameWrites_s0k; simp only [bind_cond, Option.bind_assoc, alt_bind, Option.bind_some, Option.bind_none, alt_inl, alt_inr]
@[reducible] def ref7_SameWrites_k {α : Type} (k0 : Bool → Option α) (a : List TWrite) (b : List TWrite) : Option α :=
  bif ((a.length : Int) != (b.length : Int)) then k0 false
  else ((ref7_SameWrites_l0 n_ a b 0)).bind fun r_1 =>
    alt r_1 (fun a_2 =>
      k0 false) (fun b_3 =>
      k0 true)
def ref7_SameWrites (a : List TWrite) (b : List TWrite) : Option Bool := ref7_SameWrites_k n_ (fun x => some x) a b
theorem ref7_SameWrites_bind {α : Type} (k0 : Bool → Option α) (a : List TWrite) (b : List TWrite) : ref7_SameWrites_k n_ k0 a b = (ref7_SameWrites n_ a b).bind k0 := by
  unfold ref7_SameWrites ref7_SameWrites_k; simp only [bind_cond, Option.bind_assoc, alt_bind, Option.bind_some, Option.bind_none, alt_inl, alt_inr]

/-! tenancy/tenancyref13.SameAsk -/
@[reducible] def ref13_SameAsk_k {α : Type} (k0 : Bool → Option α) (a : TAsk) (b : TAsk) : Option α :=
  bif (a.Kind == b.Kind) then (bif (a.From == b.From) then (bif (a.Epoch == b.Epoch) then (bif (a.Seq == b.Seq) then (bif (a.Name == b.Name) then (bif (a.File == b.File) then (bif (a.Mode == b.Mode) then (((ref7_SameWrites n_ a.Writes b.Writes)).bind fun r_1 =>
                k0 r_1)
              else k0 false)
            else k0 false)
          else k0 false)
        else k0 false)
      else k0 false)
    else k0 false)
  else k0 false
def ref13_SameAsk (a : TAsk) (b : TAsk) : Option Bool := ref13_SameAsk_k n_ (fun x => some x) a b
theorem ref13_SameAsk_bind {α : Type} (k0 : Bool → Option α) (a : TAsk) (b : TAsk) : ref13_SameAsk_k n_ k0 a b = (ref13_SameAsk n_ a b).bind k0 := by
  unfold ref13_SameAsk ref13_SameAsk_k; simp only [bind_cond, Option.bind_assoc, alt_bind, Option.bind_some, Option.bind_none, alt_inl, alt_inr]

/-! tenancy/tenancyref7.MayWrite -/
@[reducible] def ref7_MayWrite_k {α : Type} (k : Bool → α) (w : TWrite) : α :=
  bif (decide (w.Off ≥ 0)) then (bif (decide (w.Off < 24)) then (bif (decide ((w.B.length : Int) ≥ 1)) then k (decide ((w.B.length : Int) ≤ (wi64 (24 - w.Off))))
      else k false)
    else k false)
  else k false
def ref7_MayWrite (w : TWrite) : Bool := ref7_MayWrite_k id w
theorem ref7_MayWrite_bind {α : Type} (k : Bool → α) (w : TWrite) : ref7_MayWrite_k k w = k (ref7_MayWrite w) := by
  unfold ref7_MayWrite ref7_MayWrite_k; simp only [Bool.apply_cond k, id]

/-! tenancy/tenancyref13.MayAsk -/
@[reducible] def ref13_MayAsk_s0k {α : Type} (a : TAsk) (x : TAsk) (kc : (Bool × Int) → Option α) (k0 : Bool → Option α) (ok : Bool) (i : Int) : Option α :=
  bif (decide (i < (a.Writes.length : Int))) then (bif ok then (bif (inR i a.Writes.length) then (((a.Writes[i.toNat]?)).bind fun y_1 =>
        kc ((ref7_MayWrite y_1), (wi64 (i + 1))))
      else none)
    else kc (false, (wi64 (i + 1))))
  else k0 ok
def ref13_MayAsk_s0 (a : TAsk) (x : TAsk) (v_ : Bool × Int) : Option ((Bool × Int) ⊕ Bool) := ref13_MayAsk_s0k a x (fun x => some (.inl x)) (fun x => some (.inr x)) v_.1 v_.2
def ref13_MayAsk_l0 (a : TAsk) (x : TAsk) (ok : Bool) (i : Int) : Option Bool := iter (ref13_MayAsk_s0 a x) n_ (ok, i)
theorem ref13_MayAsk_s0_bind {α : Type} (a : TAsk) (x : TAsk) (kc : (Bool × Int) → Option α) (k0 : Bool → Option α) (ok : Bool) (i : Int) : ref13_MayAsk_s0k a x kc k0 ok i = (ref13_MayAsk_s0 a x (ok, i)).bind fun s_ => alt s_ kc k0 := by
  unfold ref13_MayAsk_s0 ref13_MayAsk_s0k; simp only [bind_cond, Option.bind_assoc, alt_bind, Option.bind_some, Option.bind_none, alt_inl, alt_inr]
@[reducible] def ref13_MayAsk_k {α : Type} (k0 : Bool → Option α) (a : TAsk) : Option α :=
  bif (decide (a.Kind < 1)) then k0 false
  else bif (decide (a.Kind > 5)) then k0 false
    else bif (decide (a.From < 1)) then k0 false
      else bif (decide (a.From > 3)) then k0 false
        else bif (!(ref13_num a.Epoch 0)) then k0 false
          else bif (!(ref13_num a.Seq 1)) then k0 false
            else bif (a.Kind == 1) then (((ref7_MayName n_ a.Name)).bind fun r_1 =>
                bif r_1 then (((ref13_SameAsk n_ (TAsk.mk a.Kind a.From a.Epoch a.Seq a.Name 0 0 []) a)).bind fun r_2 =>
                  k0 r_2)
                else k0 false)
              else bif (decide (a.File ≥ 1)) then (bif (a.Kind == 2) then (bif (decide (a.File ≤ 6)) then (bif (a.Mode == 1) then (((ref13_SameAsk n_ (TAsk.mk a.Kind a.From a.Epoch a.Seq [] a.File a.Mode []) a)).bind fun r_3 =>
                        k0 r_3)
                      else bif (a.Mode == 2) then (((ref13_SameAsk n_ (TAsk.mk a.Kind a.From a.Epoch a.Seq [] a.File a.Mode []) a)).bind fun r_4 =>
                          k0 r_4)
                        else k0 false)
                    else k0 false)
                  else bif (a.Kind == 3) then (bif (decide (a.File ≤ 6)) then (bif (decide ((a.Writes.length : Int) ≤ 5)) then (bif (decide ((a.Writes.length : Int) > 0)) then (((ref13_MayAsk_l0 n_ a (TAsk.mk a.Kind a.From a.Epoch a.Seq [] a.File 0 a.Writes) true 0)).bind fun r_5 =>
                            bif r_5 then (((ref13_SameAsk n_ (TAsk.mk a.Kind a.From a.Epoch a.Seq [] a.File 0 a.Writes) a)).bind fun r_6 =>
                              k0 r_6)
                            else k0 false)
                          else ((ref13_MayAsk_l0 n_ a (TAsk.mk a.Kind a.From a.Epoch a.Seq [] a.File 0 a.Writes) (a.Kind == 4) 0)).bind fun r_7 =>
                            bif r_7 then (((ref13_SameAsk n_ (TAsk.mk a.Kind a.From a.Epoch a.Seq [] a.File 0 a.Writes) a)).bind fun r_8 =>
                              k0 r_8)
                            else k0 false)
                        else ((ref13_MayAsk_l0 n_ a (TAsk.mk a.Kind a.From a.Epoch a.Seq [] a.File 0 a.Writes) false 0)).bind fun r_9 =>
                          bif r_9 then (((ref13_SameAsk n_ (TAsk.mk a.Kind a.From a.Epoch a.Seq [] a.File 0 a.Writes) a)).bind fun r_10 =>
                            k0 r_10)
                          else k0 false)
                      else ((ref13_MayAsk_l0 n_ a (TAsk.mk a.Kind a.From a.Epoch a.Seq [] a.File 0 a.Writes) false 0)).bind fun r_11 =>
                        bif r_11 then (((ref13_SameAsk n_ (TAsk.mk a.Kind a.From a.Epoch a.Seq [] a.File 0 a.Writes) a)).bind fun r_12 =>
                          k0 r_12)
                        else k0 false)
                    else bif (a.Kind == 4) then (bif (decide (a.File ≤ 6)) then (bif (decide ((a.Writes.length : Int) ≤ 5)) then (bif (decide ((a.Writes.length : Int) > 0)) then (((ref13_MayAsk_l0 n_ a (TAsk.mk a.Kind a.From a.Epoch a.Seq [] a.File 0 a.Writes) true 0)).bind fun r_13 =>
                              bif r_13 then (((ref13_SameAsk n_ (TAsk.mk a.Kind a.From a.Epoch a.Seq [] a.File 0 a.Writes) a)).bind fun r_14 =>
                                k0 r_14)
                              else k0 false)
                            else ((ref13_MayAsk_l0 n_ a (TAsk.mk a.Kind a.From a.Epoch a.Seq [] a.File 0 a.Writes) (a.Kind == 4) 0)).bind fun r_15 =>
                              bif r_15 then (((ref13_SameAsk n_ (TAsk.mk a.Kind a.From a.Epoch a.Seq [] a.File 0 a.Writes) a)).bind fun r_16 =>
                                k0 r_16)
                              else k0 false)
                          else ((ref13_MayAsk_l0 n_ a (TAsk.mk a.Kind a.From a.Epoch a.Seq [] a.File 0 a.Writes) false 0)).bind fun r_17 =>
                            bif r_17 then (((ref13_SameAsk n_ (TAsk.mk a.Kind a.From a.Epoch a.Seq [] a.File 0 a.Writes) a)).bind fun r_18 =>
                              k0 r_18)
                            else k0 false)
                        else ((ref13_MayAsk_l0 n_ a (TAsk.mk a.Kind a.From a.Epoch a.Seq [] a.File 0 a.Writes) false 0)).bind fun r_19 =>
                          bif r_19 then (((ref13_SameAsk n_ (TAsk.mk a.Kind a.From a.Epoch a.Seq [] a.File 0 a.Writes) a)).bind fun r_20 =>
                            k0 r_20)
                          else k0 false)
                      else bif (decide (a.File ≤ 6)) then (((ref13_SameAsk n_ (TAsk.mk a.Kind a.From a.Epoch a.Seq [] a.File 0 []) a)).bind fun r_21 =>
                          k0 r_21)
                        else k0 false)
                else bif (a.Kind == 2) then k0 false
                  else bif (a.Kind == 3) then (((ref13_MayAsk_l0 n_ a (TAsk.mk a.Kind a.From a.Epoch a.Seq [] a.File 0 a.Writes) false 0)).bind fun r_22 =>
                      bif r_22 then (((ref13_SameAsk n_ (TAsk.mk a.Kind a.From a.Epoch a.Seq [] a.File 0 a.Writes) a)).bind fun r_23 =>
                        k0 r_23)
                      else k0 false)
                    else bif (a.Kind == 4) then (((ref13_MayAsk_l0 n_ a (TAsk.mk a.Kind a.From a.Epoch a.Seq [] a.File 0 a.Writes) false 0)).bind fun r_24 =>
                        bif r_24 then (((ref13_SameAsk n_ (TAsk.mk a.Kind a.From a.Epoch a.Seq [] a.File 0 a.Writes) a)).bind fun r_25 =>
                          k0 r_25)
                        else k0 false)
                      else k0 false
def ref13_MayAsk (a : TAsk) : Option Bool := ref13_MayAsk_k n_ (fun x => some x) a
theorem ref13_MayAsk_bind {α : Type} (k0 : Bool → Option α) (a : TAsk) : ref13_MayAsk_k n_ k0 a = (ref13_MayAsk n_ a).bind k0 := by
  unfold ref13_MayAsk ref13_MayAsk_k; simp only [bind_cond, Option.bind_assoc, alt_bind, Option.bind_some, Option.bind_none, alt_inl, alt_inr]

/-! tenancy/tenancyref1.Put -/
@[reducible] def ref1_Put_s0k {α : Type} (v : Int) (kc : (Int × List UInt8) → Option α) (k0 : (List UInt8) → Option α) (i : Int) (out : List UInt8) : Option α :=
  bif (decide (i ≥ 0)) then (bif (decide ((wi64 (8 * i)) < 0)) then none
    else bif (decide ((out.length + 1) ≤ lim)) then kc ((wi64 (i - 1)), (out ++ [(b8 (wu8 (shrI .i64 v (wi64 (8 * i)))))]))
      else none)
  else k0 out
def ref1_Put_s0 (v : Int) (v_ : Int × List UInt8) : Option ((Int × List UInt8) ⊕ (List UInt8)) := ref1_Put_s0k v (fun x => some (.inl x)) (fun x => some (.inr x)) v_.1 v_.2
def ref1_Put_l0 (v : Int) (i : Int) (out : List UInt8) : Option (List UInt8) := iter (ref1_Put_s0 v) n_ (i, out)
theorem ref1_Put_s0_bind {α : Type} (v : Int) (kc : (Int × List UInt8) → Option α) (k0 : (List UInt8) → Option α) (i : Int) (out : List UInt8) : ref1_Put_s0k v kc k0 i out = (ref1_Put_s0 v (i, out)).bind fun s_ => alt s_ kc k0 := by
  unfold ref1_Put_s0 ref1_Put_s0k; simp only [bind_cond, Option.bind_assoc, alt_bind, Option.bind_some, Option.bind_none, alt_inl, alt_inr]
@[reducible] def ref1_Put_k {α : Type} (k0 : (List UInt8) → Option α) (b : List UInt8) (v : Int) (n : Int) : Option α :=
  bif (decide (b.length ≤ lim)) then (bif (decide (n < 1)) then k0 b
    else bif (decide (n > 8)) then k0 b
      else ((ref1_Put_l0 n_ v (wi64 (n - 1)) b)).bind fun r_1 =>
        k0 r_1)
  else none
def ref1_Put (b : List UInt8) (v : Int) (n : Int) : Option (List UInt8) := ref1_Put_k n_ (fun x => some x) b v n
theorem ref1_Put_bind {α : Type} (k0 : (List UInt8) → Option α) (b : List UInt8) (v : Int) (n : Int) : ref1_Put_k n_ k0 b v n = (ref1_Put n_ b v n).bind k0 := by
  unfold ref1_Put ref1_Put_k; simp only [bind_cond, Option.bind_assoc, alt_bind, Option.bind_some, Option.bind_none, alt_inl, alt_inr]

/-! tenancy/tenancyref1.Text -/
@[reducible] def ref1_Text_k {α : Type} (k0 : (List UInt8) → Option α) (b : List UInt8) (s : List UInt8) : Option α :=
  bif (decide (b.length ≤ lim)) then (bif (decide ((s.length : Int) > 255)) then k0 b
    else bif (decide ((b.length + 1) ≤ lim)) then (bif (decide (((b ++ [(b8 (wu8 (s.length : Int)))]).length + s.length) ≤ lim)) then k0 ((b ++ [(b8 (wu8 (s.length : Int)))]) ++ s)
        else none)
      else none)
  else none
def ref1_Text (b : List UInt8) (s : List UInt8) : Option (List UInt8) := ref1_Text_k (fun x => some x) b s
theorem ref1_Text_bind {α : Type} (k0 : (List UInt8) → Option α) (b : List UInt8) (s : List UInt8) : ref1_Text_k k0 b s = (ref1_Text b s).bind k0 := by
  unfold ref1_Text ref1_Text_k; simp only [bind_cond, Option.bind_assoc, alt_bind, Option.bind_some, Option.bind_none, alt_inl, alt_inr]

/-! tenancy/tenancyref1.Crc -/
@[reducible] def ref1_Crc_s0k {α : Type} (b : List UInt8) (i : Int) (kc : (Int × Int) → Option α) (k0 : Int → Option α) (c : Int) (k : Int) : Option α :=
  bif (decide (k < 8)) then (bif ((c.tmod 2) == 1) then kc ((bxor .i64 (wi64 (c.tdiv 2)) 40961), (wi64 (k + 1)))
    else kc ((wi64 (c.tdiv 2)), (wi64 (k + 1))))
  else k0 c
def ref1_Crc_s0 (b : List UInt8) (i : Int) (v_ : Int × Int) : Option ((Int × Int) ⊕ Int) := ref1_Crc_s0k b i (fun x => some (.inl x)) (fun x => some (.inr x)) v_.1 v_.2
def ref1_Crc_l0 (b : List UInt8) (i : Int) (c : Int) (k : Int) : Option Int := iter (ref1_Crc_s0 b i) n_ (c, k)
theorem ref1_Crc_s0_bind {α : Type} (b : List UInt8) (i : Int) (kc : (Int × Int) → Option α) (k0 : Int → Option α) (c : Int) (k : Int) : ref1_Crc_s0k b i kc k0 c k = (ref1_Crc_s0 b i (c, k)).bind fun s_ => alt s_ kc k0 := by
  unfold ref1_Crc_s0 ref1_Crc_s0k; simp only [bind_cond, Option.bind_assoc, alt_bind, Option.bind_some, Option.bind_none, alt_inl, alt_inr]
@[reducible] def ref1_Crc_s1k {α : Type} (b : List UInt8) (kc : (Int × Int) → Option α) (k0 : Int → Option α) (c : Int) (i : Int) : Option α :=
  bif (decide (i < (b.length : Int))) then (bif (inR i b.length) then (((b[i.toNat]?)).bind fun y_1 =>
      ((ref1_Crc_l0 n_ b i (bxor .i64 c (wi64 (i8 y_1))) 0)).bind fun r_2 =>
      kc (r_2, (wi64 (i + 1))))
    else none)
  else k0 c
def ref1_Crc_s1 (b : List UInt8) (v_ : Int × Int) : Option ((Int × Int) ⊕ Int) := ref1_Crc_s1k n_ b (fun x => some (.inl x)) (fun x => some (.inr x)) v_.1 v_.2
def ref1_Crc_l1 (b : List UInt8) (c : Int) (i : Int) : Option Int := iter (ref1_Crc_s1 n_ b) n_ (c, i)
theorem ref1_Crc_s1_bind {α : Type} (b : List UInt8) (kc : (Int × Int) → Option α) (k0 : Int → Option α) (c : Int) (i : Int) : ref1_Crc_s1k n_ b kc k0 c i = (ref1_Crc_s1 n_ b (c, i)).bind fun s_ => alt s_ kc k0 := by
  unfold ref1_Crc_s1 ref1_Crc_s1k; simp only [bind_cond, Option.bind_assoc, alt_bind, Option.bind_some, Option.bind_none, alt_inl, alt_inr]
@[reducible] def ref1_Crc_k {α : Type} (k0 : Int → Option α) (b : List UInt8) : Option α :=
  ((ref1_Crc_l1 n_ b 0 0)).bind fun r_1 =>
  k0 (wu16 r_1)
def ref1_Crc (b : List UInt8) : Option Int := ref1_Crc_k n_ (fun x => some x) b
theorem ref1_Crc_bind {α : Type} (k0 : Int → Option α) (b : List UInt8) : ref1_Crc_k n_ k0 b = (ref1_Crc n_ b).bind k0 := by
  unfold ref1_Crc ref1_Crc_k; simp only [bind_cond, Option.bind_assoc, alt_bind, Option.bind_some, Option.bind_none, alt_inl, alt_inr]

/-! tenancy/tenancyref13.sealed -/
@[reducible] def ref13_sealed_k {α : Type} (k0 : (List UInt8) → Option α) (b : List UInt8) : Option α :=
  ((ref1_Crc n_ b)).bind fun r_1 =>
  ((ref1_Put n_ b (wi64 r_1) 2)).bind fun r_2 =>
  k0 r_2
def ref13_sealed (b : List UInt8) : Option (List UInt8) := ref13_sealed_k n_ (fun x => some x) b
theorem ref13_sealed_bind {α : Type} (k0 : (List UInt8) → Option α) (b : List UInt8) : ref13_sealed_k n_ k0 b = (ref13_sealed n_ b).bind k0 := by
  unfold ref13_sealed ref13_sealed_k; simp only [bind_cond, Option.bind_assoc, alt_bind, Option.bind_some, Option.bind_none, alt_inl, alt_inr]

/-! tenancy/tenancyref13.PutAsk -/
@[reducible] def ref13_PutAsk_s0k {α : Type} (a : TAsk) (kc : (List UInt8 × Int) → Option α) (k0 : (List UInt8) → Option α) (b : List UInt8) (i : Int) : Option α :=
  bif (decide (i < (a.Writes.length : Int))) then (bif (inR i a.Writes.length) then (((a.Writes[i.toNat]?)).bind fun y_1 =>
      ((ref1_Put n_ b y_1.Off 1)).bind fun r_2 =>
      bif (inR i a.Writes.length) then (((a.Writes[i.toNat]?)).bind fun y_3 =>
        ((ref1_Text r_2 y_3.B)).bind fun r_4 =>
        kc (r_4, (wi64 (i + 1))))
      else none)
    else none)
  else k0 b
def ref13_PutAsk_s0 (a : TAsk) (v_ : List UInt8 × Int) : Option ((List UInt8 × Int) ⊕ (List UInt8)) := ref13_PutAsk_s0k n_ a (fun x => some (.inl x)) (fun x => some (.inr x)) v_.1 v_.2
def ref13_PutAsk_l0 (a : TAsk) (b : List UInt8) (i : Int) : Option (List UInt8) := iter (ref13_PutAsk_s0 n_ a) n_ (b, i)
theorem ref13_PutAsk_s0_bind {α : Type} (a : TAsk) (kc : (List UInt8 × Int) → Option α) (k0 : (List UInt8) → Option α) (b : List UInt8) (i : Int) : ref13_PutAsk_s0k n_ a kc k0 b i = (ref13_PutAsk_s0 n_ a (b, i)).bind fun s_ => alt s_ kc k0 := by
  unfold ref13_PutAsk_s0 ref13_PutAsk_s0k; simp only [bind_cond, Option.bind_assoc, alt_bind, Option.bind_some, Option.bind_none, alt_inl, alt_inr]
@[reducible] def ref13_PutAsk_k {α : Type} (k0 : (List UInt8) → Option α) (a : TAsk) : Option α :=
  ((ref13_MayAsk n_ a)).bind fun r_1 =>
  bif (!r_1) then k0 ([])
  else ((ref1_Put n_ [] a.Kind 1)).bind fun r_2 =>
    ((ref1_Put n_ r_2 a.From 1)).bind fun r_3 =>
    ((ref1_Put n_ r_3 a.Epoch 4)).bind fun r_4 =>
    ((ref1_Put n_ r_4 a.Seq 4)).bind fun r_5 =>
    ((ref1_Text r_5 a.Name)).bind fun r_6 =>
    ((ref1_Put n_ r_6 a.File 1)).bind fun r_7 =>
    ((ref1_Put n_ r_7 a.Mode 1)).bind fun r_8 =>
    ((ref1_Put n_ r_8 (a.Writes.length : Int) 1)).bind fun r_9 =>
    ((ref13_PutAsk_l0 n_ a r_9 0)).bind fun r_10 =>
    ((ref13_sealed n_ r_10)).bind fun r_11 =>
    k0 r_11
def ref13_PutAsk (a : TAsk) : Option (List UInt8) := ref13_PutAsk_k n_ (fun x => some x) a
theorem ref13_PutAsk_bind {α : Type} (k0 : (List UInt8) → Option α) (a : TAsk) : ref13_PutAsk_k n_ k0 a = (ref13_PutAsk n_ a).bind k0 := by
  unfold ref13_PutAsk ref13_PutAsk_k; simp only [bind_cond, Option.bind_assoc, alt_bind, Option.bind_some, Option.bind_none, alt_inl, alt_inr]

/-! tenancy/tenancyref13.MayTell -/
@[reducible] def ref13_MayTell_k {α : Type} (k : Bool → α) (t : TTell) : α :=
  bif (decide (t.Kind < 1)) then k false
  else bif (decide (t.Kind > 3)) then k false
    else bif (decide (t.To < 1)) then k false
      else bif (decide (t.To > 3)) then k false
        else bif (!(ref13_num t.Epoch 0)) then k false
          else bif (t.Kind == 1) then (bif (ref13_num t.Seq 1) then (bif (decide (t.Err ≥ 0)) then (bif (decide (t.Err ≤ 7)) then (bif (decide (t.File ≥ 0)) then (bif (decide (t.File ≤ 6)) then (bif (decide (t.Mode ≥ 0)) then (bif (decide (t.Mode ≤ 2)) then (bif (ref13_num t.Ver 0) then k (decide ((t.Body.length : Int) ≤ 24))
                            else k false)
                          else k false)
                        else k false)
                      else k false)
                    else k false)
                  else k false)
                else k false)
              else k false)
            else bif (t.Kind == 2) then (bif (decide (t.File ≥ 1)) then (bif (decide (t.File ≤ 6)) then k (TTell.eqb t (TTell.mk t.Kind t.To t.Epoch 0 0 t.File 0 0 []))
                  else k false)
                else k false)
              else k (TTell.eqb t (TTell.mk t.Kind t.To t.Epoch 0 0 0 0 0 []))
def ref13_MayTell (t : TTell) : Bool := ref13_MayTell_k id t
theorem ref13_MayTell_bind {α : Type} (k : Bool → α) (t : TTell) : ref13_MayTell_k k t = k (ref13_MayTell t) := by
  unfold ref13_MayTell ref13_MayTell_k; simp only [Bool.apply_cond k, id]

/-! tenancy/tenancyref13.PutTell -/
@[reducible] def ref13_PutTell_k {α : Type} (k0 : (List UInt8) → Option α) (t : TTell) : Option α :=
  bif (!(ref13_MayTell t)) then k0 ([])
  else ((ref1_Put n_ [] t.Kind 1)).bind fun r_1 =>
    ((ref1_Put n_ r_1 t.To 1)).bind fun r_2 =>
    ((ref1_Put n_ r_2 t.Epoch 4)).bind fun r_3 =>
    ((ref1_Put n_ r_3 t.Seq 4)).bind fun r_4 =>
    ((ref1_Put n_ r_4 t.Err 1)).bind fun r_5 =>
    ((ref1_Put n_ r_5 t.File 1)).bind fun r_6 =>
    ((ref1_Put n_ r_6 t.Mode 1)).bind fun r_7 =>
    ((ref1_Put n_ r_7 t.Ver 4)).bind fun r_8 =>
    ((ref1_Text r_8 t.Body)).bind fun r_9 =>
    ((ref13_sealed n_ r_9)).bind fun r_10 =>
    k0 r_10
def ref13_PutTell (t : TTell) : Option (List UInt8) := ref13_PutTell_k n_ (fun x => some x) t
theorem ref13_PutTell_bind {α : Type} (k0 : (List UInt8) → Option α) (t : TTell) : ref13_PutTell_k n_ k0 t = (ref13_PutTell n_ t).bind k0 := by
  unfold ref13_PutTell ref13_PutTell_k; simp only [bind_cond, Option.bind_assoc, alt_bind, Option.bind_some, Option.bind_none, alt_inl, alt_inr]

/-! tenancy/tenancyref1.Take -/
@[reducible] def ref1_Take_s0k {α : Type} (b : List UInt8) (n : Int) (kc : (Int × Int) → Option α) (k0 : Int → Option α) (v : Int) (i : Int) : Option α :=
  bif (decide (i < n)) then (bif (inR i b.length) then (((b[i.toNat]?)).bind fun y_1 =>
      kc ((wi64 ((wi64 (v * 256)) + (wi64 (i8 y_1)))), (wi64 (i + 1))))
    else none)
  else k0 v
def ref1_Take_s0 (b : List UInt8) (n : Int) (v_ : Int × Int) : Option ((Int × Int) ⊕ Int) := ref1_Take_s0k b n (fun x => some (.inl x)) (fun x => some (.inr x)) v_.1 v_.2
def ref1_Take_l0 (b : List UInt8) (n : Int) (v : Int) (i : Int) : Option Int := iter (ref1_Take_s0 b n) n_ (v, i)
theorem ref1_Take_s0_bind {α : Type} (b : List UInt8) (n : Int) (kc : (Int × Int) → Option α) (k0 : Int → Option α) (v : Int) (i : Int) : ref1_Take_s0k b n kc k0 v i = (ref1_Take_s0 b n (v, i)).bind fun s_ => alt s_ kc k0 := by
  unfold ref1_Take_s0 ref1_Take_s0k; simp only [bind_cond, Option.bind_assoc, alt_bind, Option.bind_some, Option.bind_none, alt_inl, alt_inr]
@[reducible] def ref1_Take_k {α : Type} (k0 : (Int × Bool) → Option α) (b : List UInt8) (n : Int) : Option α :=
  bif (decide (n < 1)) then k0 (0, false)
  else bif (decide (n > 7)) then k0 (0, false)
    else bif (decide ((b.length : Int) < n)) then k0 (0, false)
      else ((ref1_Take_l0 n_ b n 0 0)).bind fun r_1 =>
        k0 (r_1, true)
def ref1_Take (b : List UInt8) (n : Int) : Option (Int × Bool) := ref1_Take_k n_ (fun x => some x) b n
theorem ref1_Take_bind {α : Type} (k0 : (Int × Bool) → Option α) (b : List UInt8) (n : Int) : ref1_Take_k n_ k0 b n = (ref1_Take n_ b n).bind k0 := by
  unfold ref1_Take ref1_Take_k; simp only [bind_cond, Option.bind_assoc, alt_bind, Option.bind_some, Option.bind_none, alt_inl, alt_inr]

/-! (*tenancy/tenancyref13.Reader).Num -/
@[reducible] def ref13_Reader_Num_k {α : Type} (k0 : (Int × Ttenancyref13_Reader) → Option α) (n : Int) (r : Ttenancyref13_Reader) : Option α :=
  ((ref1_Take n_ r.B n)).bind fun r_1 =>
  bif (!r_1.2) then k0 (0, (Ttenancyref13_Reader.mk r.B true))
  else bif r.Bad then k0 (0, r)
    else bif (cutOk n (r.B.length : Int) r.B.length) then k0 (r_1.1, (Ttenancyref13_Reader.mk (cutL r.B n (r.B.length : Int)) r.Bad))
      else none
def ref13_Reader_Num (n : Int) (r : Ttenancyref13_Reader) : Option (Int × Ttenancyref13_Reader) := ref13_Reader_Num_k n_ (fun x => some x) n r
theorem ref13_Reader_Num_bind {α : Type} (k0 : (Int × Ttenancyref13_Reader) → Option α) (n : Int) (r : Ttenancyref13_Reader) : ref13_Reader_Num_k n_ k0 n r = (ref13_Reader_Num n_ n r).bind k0 := by
  unfold ref13_Reader_Num ref13_Reader_Num_k; simp only [bind_cond, Option.bind_assoc, alt_bind, Option.bind_some, Option.bind_none, alt_inl, alt_inr]

/-! tenancy/tenancyref1.TakeText -/
@[reducible] def ref1_TakeText_k {α : Type} (k0 : (List UInt8 × Int × Bool) → Option α) (b : List UInt8) : Option α :=
  bif (decide ((b.length : Int) < 1)) then k0 ([], 0, false)
  else bif (inR 0 b.length) then (((b[0]?)).bind fun y_1 =>
      bif (decide ((wi64 ((b.length : Int) - 1)) < (wi64 (i8 y_1)))) then k0 ([], 0, false)
      else bif (inR 0 b.length) then (((b[0]?)).bind fun y_2 =>
          bif (cutOk 1 (wi64 ((wi64 (i8 y_2)) + 1)) b.length) then k0 ((cutL b 1 (wi64 ((wi64 (i8 y_2)) + 1))), (wi64 ((wi64 (i8 y_2)) + 1)), true)
          else none)
        else none)
    else none
def ref1_TakeText (b : List UInt8) : Option (List UInt8 × Int × Bool) := ref1_TakeText_k (fun x => some x) b
theorem ref1_TakeText_bind {α : Type} (k0 : (List UInt8 × Int × Bool) → Option α) (b : List UInt8) : ref1_TakeText_k k0 b = (ref1_TakeText b).bind k0 := by
  unfold ref1_TakeText ref1_TakeText_k; simp only [bind_cond, Option.bind_assoc, alt_bind, Option.bind_some, Option.bind_none, alt_inl, alt_inr]

/-! (*tenancy/tenancyref13.Reader).Text -/
@[reducible] def ref13_Reader_Text_k {α : Type} (k0 : (List UInt8 × Ttenancyref13_Reader) → Option α) (r : Ttenancyref13_Reader) : Option α :=
  ((ref1_TakeText r.B)).bind fun r_1 =>
  bif (!r_1.2.2) then k0 ([], (Ttenancyref13_Reader.mk r.B true))
  else bif r.Bad then k0 ([], r)
    else bif (cutOk r_1.2.1 (r.B.length : Int) r.B.length) then k0 (r_1.1, (Ttenancyref13_Reader.mk (cutL r.B r_1.2.1 (r.B.length : Int)) r.Bad))
      else none
def ref13_Reader_Text (r : Ttenancyref13_Reader) : Option (List UInt8 × Ttenancyref13_Reader) := ref13_Reader_Text_k (fun x => some x) r
theorem ref13_Reader_Text_bind {α : Type} (k0 : (List UInt8 × Ttenancyref13_Reader) → Option α) (r : Ttenancyref13_Reader) : ref13_Reader_Text_k k0 r = (ref13_Reader_Text r).bind k0 := by
  unfold ref13_Reader_Text ref13_Reader_Text_k; simp only [bind_cond, Option.bind_assoc, alt_bind, Option.bind_some, Option.bind_none, alt_inl, alt_inr]

/-! tenancy/tenancyref13.TakeAsk -/
@[reducible] def ref13_TakeAsk_s0k {α : Type} (b : List UInt8) (kc : (Int × TAsk × Ttenancyref13_Reader × TAsk) → Option α) (k0 : (TAsk × Ttenancyref13_Reader × TAsk) → Option α) (n : Int) (o0 : TAsk) (r : Ttenancyref13_Reader) (a : TAsk) : Option α :=
  bif (decide (n > 0)) then (bif (!r.Bad) then (((ref13_Reader_Num n_ 1 r)).bind fun r_1 =>
      ((ref13_Reader_Text r_1.2)).bind fun r_2 =>
      bif (decide ((a.Writes.length + 1) ≤ lim)) then kc ((wi64 (n - 1)), (TAsk.mk o0.Kind o0.From o0.Epoch o0.Seq o0.Name o0.File o0.Mode []), r_2.2, (TAsk.mk a.Kind a.From a.Epoch a.Seq a.Name a.File a.Mode (a.Writes ++ [(TWrite.mk r_1.1 r_2.1)])))
      else none)
    else k0 ((TAsk.mk o0.Kind o0.From o0.Epoch o0.Seq o0.Name o0.File o0.Mode []), r, a))
  else k0 ((TAsk.mk o0.Kind o0.From o0.Epoch o0.Seq o0.Name o0.File o0.Mode []), r, a)
def ref13_TakeAsk_s0 (b : List UInt8) (v_ : Int × TAsk × Ttenancyref13_Reader × TAsk) : Option ((Int × TAsk × Ttenancyref13_Reader × TAsk) ⊕ (TAsk × Ttenancyref13_Reader × TAsk)) := ref13_TakeAsk_s0k n_ b (fun x => some (.inl x)) (fun x => some (.inr x)) v_.1 v_.2.1 v_.2.2.1 v_.2.2.2
def ref13_TakeAsk_l0 (b : List UInt8) (n : Int) (o0 : TAsk) (r : Ttenancyref13_Reader) (a : TAsk) : Option (TAsk × Ttenancyref13_Reader × TAsk) := iter (ref13_TakeAsk_s0 n_ b) n_ (n, o0, r, a)
theorem ref13_TakeAsk_s0_bind {α : Type} (b : List UInt8) (kc : (Int × TAsk × Ttenancyref13_Reader × TAsk) → Option α) (k0 : (TAsk × Ttenancyref13_Reader × TAsk) → Option α) (n : Int) (o0 : TAsk) (r : Ttenancyref13_Reader) (a : TAsk) : ref13_TakeAsk_s0k n_ b kc k0 n o0 r a = (ref13_TakeAsk_s0 n_ b (n, o0, r, a)).bind fun s_ => alt s_ kc k0 := by
  unfold ref13_TakeAsk_s0 ref13_TakeAsk_s0k; simp only [bind_cond, Option.bind_assoc, alt_bind, Option.bind_some, Option.bind_none, alt_inl, alt_inr]
@[reducible] def ref13_TakeAsk_k {α : Type} (k0 : (TAsk × Bool) → Option α) (b : List UInt8) : Option α :=
  ((ref13_Reader_Num n_ 1 (Ttenancyref13_Reader.mk b false))).bind fun r_1 =>
  ((ref13_Reader_Num n_ 1 r_1.2)).bind fun r_2 =>
  ((ref13_Reader_Num n_ 4 r_2.2)).bind fun r_3 =>
  ((ref13_Reader_Num n_ 4 r_3.2)).bind fun r_4 =>
  ((ref13_Reader_Text r_4.2)).bind fun r_5 =>
  ((ref13_Reader_Num n_ 1 r_5.2)).bind fun r_6 =>
  ((ref13_Reader_Num n_ 1 r_6.2)).bind fun r_7 =>
  ((ref13_Reader_Num n_ 1 r_7.2)).bind fun r_8 =>
  ((ref13_TakeAsk_l0 n_ b r_8.1 (TAsk.mk 0 0 0 0 [] 0 0 []) r_8.2 (TAsk.mk r_1.1 r_2.1 r_3.1 r_4.1 r_5.1 r_6.1 r_7.1 []))).bind fun r_9 =>
  bif r_9.2.1.Bad then k0 ((TAsk.mk 0 0 0 0 [] 0 0 []), false)
  else ((ref13_MayAsk n_ r_9.2.2)).bind fun r_10 =>
    bif (!r_10) then k0 ((TAsk.mk 0 0 0 0 [] 0 0 []), false)
    else ((ref13_PutAsk n_ r_9.2.2)).bind fun r_11 =>
      bif (!(r_11 == b)) then k0 ((TAsk.mk 0 0 0 0 [] 0 0 []), false)
      else k0 (r_9.2.2, true)
def ref13_TakeAsk (b : List UInt8) : Option (TAsk × Bool) := ref13_TakeAsk_k n_ (fun x => some x) b
theorem ref13_TakeAsk_bind {α : Type} (k0 : (TAsk × Bool) → Option α) (b : List UInt8) : ref13_TakeAsk_k n_ k0 b = (ref13_TakeAsk n_ b).bind k0 := by
  unfold ref13_TakeAsk ref13_TakeAsk_k; simp only [bind_cond, Option.bind_assoc, alt_bind, Option.bind_some, Option.bind_none, alt_inl, alt_inr]

/-! tenancy/tenancyref13.TakeTell -/
@[reducible] def ref13_TakeTell_k {α : Type} (k0 : (TTell × Bool) → Option α) (b : List UInt8) : Option α :=
  ((ref13_Reader_Num n_ 1 (Ttenancyref13_Reader.mk b false))).bind fun r_1 =>
  ((ref13_Reader_Num n_ 1 r_1.2)).bind fun r_2 =>
  ((ref13_Reader_Num n_ 4 r_2.2)).bind fun r_3 =>
  ((ref13_Reader_Num n_ 4 r_3.2)).bind fun r_4 =>
  ((ref13_Reader_Num n_ 1 r_4.2)).bind fun r_5 =>
  ((ref13_Reader_Num n_ 1 r_5.2)).bind fun r_6 =>
  ((ref13_Reader_Num n_ 1 r_6.2)).bind fun r_7 =>
  ((ref13_Reader_Num n_ 4 r_7.2)).bind fun r_8 =>
  ((ref13_Reader_Text r_8.2)).bind fun r_9 =>
  bif r_9.2.Bad then k0 ((TTell.mk 0 0 0 0 0 0 0 0 []), false)
  else bif (!(ref13_MayTell (TTell.mk r_1.1 r_2.1 r_3.1 r_4.1 r_5.1 r_6.1 r_7.1 r_8.1 r_9.1))) then k0 ((TTell.mk 0 0 0 0 0 0 0 0 []), false)
    else ((ref13_PutTell n_ (TTell.mk r_1.1 r_2.1 r_3.1 r_4.1 r_5.1 r_6.1 r_7.1 r_8.1 r_9.1))).bind fun r_10 =>
      bif (!(r_10 == b)) then k0 ((TTell.mk 0 0 0 0 0 0 0 0 []), false)
      else k0 ((TTell.mk r_1.1 r_2.1 r_3.1 r_4.1 r_5.1 r_6.1 r_7.1 r_8.1 r_9.1), true)
def ref13_TakeTell (b : List UInt8) : Option (TTell × Bool) := ref13_TakeTell_k n_ (fun x => some x) b
theorem ref13_TakeTell_bind {α : Type} (k0 : (TTell × Bool) → Option α) (b : List UInt8) : ref13_TakeTell_k n_ k0 b = (ref13_TakeTell n_ b).bind k0 := by
  unfold ref13_TakeTell ref13_TakeTell_k; simp only [bind_cond, Option.bind_assoc, alt_bind, Option.bind_some, Option.bind_none, alt_inl, alt_inr]

/-! tenancy/tenancylaw16.MsgAll -/
@[reducible] def law16_MsgAll_s0k {α : Type} (b : List UInt8) (l : List TAsk) (m : List TTell) (o0 : TAsk) (o1 : TTell) (o2 : Ttenancymade_Picks) (kc : Int → Option α) (k0 : Unit → Option α) (k1 : Unit → Option α) (i : Int) : Option α :=
  bif (decide (i < 2)) then (bif (inR i l.length) then (((l[i.toNat]?)).bind fun y_1 =>
      ((msg_MayAsk n_ y_1)).bind fun r_2 =>
      bif (inR i l.length) then (((l[i.toNat]?)).bind fun y_3 =>
        ((ref13_MayAsk n_ y_3)).bind fun r_4 =>
        bif (!(r_2 == r_4)) then k0 ()
        else bif (inR i l.length) then (((l[i.toNat]?)).bind fun y_5 =>
            ((msg_PutAsk n_ y_5)).bind fun r_6 =>
            bif (inR i l.length) then (((l[i.toNat]?)).bind fun y_7 =>
              ((ref13_PutAsk n_ y_7)).bind fun r_8 =>
              bif (!(r_6 == r_8)) then k0 ()
              else bif (inR 0 l.length) then (((l[0]?)).bind fun y_9 =>
                  bif (inR i l.length) then (((l[i.toNat]?)).bind fun y_10 =>
                    ((msg_SameAsk n_ y_9 y_10)).bind fun r_11 =>
                    bif (inR 0 l.length) then (((l[0]?)).bind fun y_12 =>
                      bif (inR i l.length) then (((l[i.toNat]?)).bind fun y_13 =>
                        ((ref13_SameAsk n_ y_12 y_13)).bind fun r_14 =>
                        bif (!(r_11 == r_14)) then k0 ()
                        else bif (inR i m.length) then (((m[i.toNat]?)).bind fun y_15 =>
                            bif (inR i m.length) then (((m[i.toNat]?)).bind fun y_16 =>
                              bif (!((msg_MayTell y_15) == (ref13_MayTell y_16))) then k0 ()
                              else bif (inR i m.length) then (((m[i.toNat]?)).bind fun y_17 =>
                                  ((msg_PutTell n_ y_17)).bind fun r_18 =>
                                  bif (inR i m.length) then (((m[i.toNat]?)).bind fun y_19 =>
                                    ((ref13_PutTell n_ y_19)).bind fun r_20 =>
                                    bif (!(r_18 == r_20)) then k0 ()
                                    else kc (wi64 (i + 1)))
                                  else none)
                                else none)
                            else none)
                          else none)
                      else none)
                    else none)
                  else none)
                else none)
            else none)
          else none)
      else none)
    else none)
  else k1 ()
def law16_MsgAll_s0 (b : List UInt8) (l : List TAsk) (m : List TTell) (o0 : TAsk) (o1 : TTell) (o2 : Ttenancymade_Picks) (v_ : Int) : Option (Int ⊕ (Unit ⊕ Unit)) := law16_MsgAll_s0k n_ b l m o0 o1 o2 (fun x => some (.inl x)) (fun x => some (.inr (.inl x))) (fun x => some (.inr (.inr x))) v_
def law16_MsgAll_l0 (b : List UInt8) (l : List TAsk) (m : List TTell) (o0 : TAsk) (o1 : TTell) (o2 : Ttenancymade_Picks) (i : Int) : Option (Unit ⊕ Unit) := iter (law16_MsgAll_s0 n_ b l m o0 o1 o2) n_ i
theorem law16_MsgAll_s0_bind {α : Type} (b : List UInt8) (l : List TAsk) (m : List TTell) (o0 : TAsk) (o1 : TTell) (o2 : Ttenancymade_Picks) (kc : Int → Option α) (k0 : Unit → Option α) (k1 : Unit → Option α) (i : Int) : law16_MsgAll_s0k n_ b l m o0 o1 o2 kc k0 k1 i = (law16_MsgAll_s0 n_ b l m o0 o1 o2 i).bind fun s_ => alt s_ kc (fun s0_ => alt s0_ k0 k1) := by
  unfold law16_MsgAll_s0 law16_MsgAll_s0k; simp only [bind_cond, Option.bind_assoc, alt_bind, Option.bind_some, Option.bind_none, alt_inl, alt_inr]
@[reducible] def law16_MsgAll_k {α : Type} (k0 : Bool → Option α) (wild : TAsk) (odd : TTell) (picks : List UInt8) (b : List UInt8) : Option α :=
  ((law16_begun n_)).bind fun r_1 =>
  bif (!r_1) then k0 false
  else ((law16_Light n_ wild)).bind fun r_2 =>
    bif (!r_2) then k0 true
    else bif (decide ((odd.Body.length : Int) > 60)) then k0 true
      else bif (decide ((picks.length : Int) > 40)) then k0 true
        else bif (decide ((b.length : Int) > 90)) then k0 true
          else ((made_Picks_Ask n_ (made_Made picks))).bind fun r_3 =>
            ((made_Picks_Tell r_3.2)).bind fun r_4 =>
            ((law16_MsgAll_l0 n_ b [wild, r_3.1] [odd, r_4.1] wild odd r_4.2 0)).bind fun r_5 =>
            alt r_5 (fun a_6 =>
              k0 false) (fun b_7 =>
              ((msg_TakeAsk n_ b)).bind fun r_8 =>
              ((ref13_TakeAsk n_ b)).bind fun r_9 =>
              ((msg_TakeTell n_ b)).bind fun r_10 =>
              ((ref13_TakeTell n_ b)).bind fun r_11 =>
              bif (r_8.2 == r_9.2) then (((ref13_SameAsk n_ r_8.1 r_9.1)).bind fun r_12 =>
                bif r_12 then (bif (r_10.2 == r_11.2) then (bif (TTell.eqb r_10.1 r_11.1) then (((msg_MayAsk n_ r_3.1)).bind fun r_13 =>
                      bif r_13 then k0 (msg_MayTell r_4.1)
                      else k0 false)
                    else k0 false)
                  else k0 false)
                else k0 false)
              else k0 false)
def law16_MsgAll (wild : TAsk) (odd : TTell) (picks : List UInt8) (b : List UInt8) : Option Bool := law16_MsgAll_k n_ (fun x => some x) wild odd picks b
theorem law16_MsgAll_bind {α : Type} (k0 : Bool → Option α) (wild : TAsk) (odd : TTell) (picks : List UInt8) (b : List UInt8) : law16_MsgAll_k n_ k0 wild odd picks b = (law16_MsgAll n_ wild odd picks b).bind k0 := by
  unfold law16_MsgAll law16_MsgAll_k; simp only [bind_cond, Option.bind_assoc, alt_bind, Option.bind_some, Option.bind_none, alt_inl, alt_inr]

/-! tenancy/tenancylaw16.MsgBack -/
@[reducible] def law16_MsgBack_k {α : Type} (k0 : Bool → Option α) (a : List UInt8) (b : List UInt8) (at_ : Int) (by_ : UInt8) (more : UInt8) : Option α :=
  ((law16_begun n_)).bind fun r_1 =>
  bif (!r_1) then k0 false
  else bif (decide ((a.length : Int) > 20)) then k0 true
    else bif (decide ((b.length : Int) > 20)) then k0 true
      else ((made_Picks_Ask n_ (made_Made a))).bind fun r_2 =>
        ((made_Picks_Tell (made_Made b))).bind fun r_3 =>
        ((msg_PutAsk n_ r_2.1)).bind fun r_4 =>
        ((msg_PutTell n_ r_3.1)).bind fun r_5 =>
        bif (decide ((r_4.length : Int) < 10)) then k0 false
        else bif (decide ((r_5.length : Int) < 10)) then k0 false
          else ((msg_TakeAsk n_ r_4)).bind fun r_6 =>
            ((msg_TakeTell n_ r_5)).bind fun r_7 =>
            bif ((r_4.length : Int) == 0) then none
            else bif (cutOk 0 ((wi64 at_).tmod (r_4.length : Int)) r_4.length) then (((msg_TakeAsk n_ (cutL r_4 0 ((wi64 at_).tmod (r_4.length : Int))))).bind fun r_8 =>
                bif ((r_5.length : Int) == 0) then none
                else bif (cutOk 0 ((wi64 at_).tmod (r_5.length : Int)) r_5.length) then (((msg_TakeTell n_ (cutL r_5 0 ((wi64 at_).tmod (r_5.length : Int))))).bind fun r_9 =>
                    bif (decide (r_4.length ≤ lim)) then (bif (decide ((r_4.length + 1) ≤ lim)) then (((msg_TakeAsk n_ (r_4 ++ [more]))).bind fun r_10 =>
                        bif (decide (r_5.length ≤ lim)) then (bif (decide ((r_5.length + 1) ≤ lim)) then (((msg_TakeTell n_ (r_5 ++ [more]))).bind fun r_11 =>
                            bif (!r_6.2) then k0 false
                            else ((ref13_SameAsk n_ r_6.1 r_2.1)).bind fun r_12 =>
                              bif (!r_12) then k0 false
                              else bif (!r_7.2) then k0 false
                                else bif (!(TTell.eqb r_7.1 r_3.1)) then k0 false
                                  else bif r_8.2 then k0 false
                                    else bif r_9.2 then k0 false
                                      else bif r_10.2 then k0 false
                                        else bif r_11.2 then k0 false
                                          else bif ((i8 by_) == 0) then k0 true
                                            else bif (decide (r_4.length ≤ lim)) then (bif (decide (r_5.length ≤ lim)) then (bif ((r_4.length : Int) == 0) then none
                                                  else bif (inR ((wi64 at_).tmod (r_4.length : Int)) r_4.length) then (((r_4[((wi64 at_).tmod (r_4.length : Int)).toNat]?)).bind fun y_13 =>
                                                      bif (inR ((wi64 at_).tmod (r_4.length : Int)) r_4.length) then (((r_4[((wi64 at_).tmod (r_4.length : Int)).toNat]?)).bind fun y_14 =>
                                                        bif ((r_5.length : Int) == 0) then none
                                                        else bif (inR ((wi64 at_).tmod (r_5.length : Int)) r_5.length) then (((r_5[((wi64 at_).tmod (r_5.length : Int)).toNat]?)).bind fun y_15 =>
                                                            bif (inR ((wi64 at_).tmod (r_5.length : Int)) r_5.length) then (((r_5[((wi64 at_).tmod (r_5.length : Int)).toNat]?)).bind fun y_16 =>
                                                              ((msg_TakeAsk n_ (r_4.set ((wi64 at_).tmod (r_4.length : Int)).toNat (b8 (bxor .u8 (i8 y_13) (i8 by_)))))).bind fun r_17 =>
                                                              ((msg_TakeTell n_ (r_5.set ((wi64 at_).tmod (r_5.length : Int)).toNat (b8 (bxor .u8 (i8 y_15) (i8 by_)))))).bind fun r_18 =>
                                                              bif (!r_17.2) then k0 (!r_18.2)
                                                              else k0 false)
                                                            else none)
                                                          else none)
                                                      else none)
                                                    else none)
                                                else none)
                                              else none)
                          else none)
                        else none)
                      else none)
                    else none)
                  else none)
              else none
def law16_MsgBack (a : List UInt8) (b : List UInt8) (at_ : Int) (by_ : UInt8) (more : UInt8) : Option Bool := law16_MsgBack_k n_ (fun x => some x) a b at_ by_ more
theorem law16_MsgBack_bind {α : Type} (k0 : Bool → Option α) (a : List UInt8) (b : List UInt8) (at_ : Int) (by_ : UInt8) (more : UInt8) : law16_MsgBack_k n_ k0 a b at_ by_ more = (law16_MsgBack n_ a b at_ by_ more).bind k0 := by
  unfold law16_MsgBack law16_MsgBack_k; simp only [bind_cond, Option.bind_assoc, alt_bind, Option.bind_some, Option.bind_none, alt_inl, alt_inr]

/-! tenancy/tenancylaw16.MsgForms -/
@[reducible] def law16_MsgForms_s0k {α : Type} (good : List TAsk) (bad : List TAsk) (r0 : List TWrite) (kc : Int → Option α) (k0 : TAsk → Option α) (k1 : Unit → Option α) (i : Int) : Option α :=
  bif (decide (i < (good.length : Int))) then (bif (inR i good.length) then (((good[i.toNat]?)).bind fun y_1 =>
      ((msg_PutAsk n_ y_1)).bind fun r_2 =>
      ((msg_TakeAsk n_ r_2)).bind fun r_3 =>
      bif (inR i good.length) then (((good[i.toNat]?)).bind fun y_4 =>
        ((msg_MayAsk n_ y_4)).bind fun r_5 =>
        bif (!r_5) then k0 r_3.1
        else bif (!r_3.2) then k0 r_3.1
          else bif (inR i good.length) then (((good[i.toNat]?)).bind fun y_6 =>
              ((ref13_SameAsk n_ r_3.1 y_6)).bind fun r_7 =>
              bif (!r_7) then k0 r_3.1
              else kc (wi64 (i + 1)))
            else none)
      else none)
    else none)
  else k1 ()
def law16_MsgForms_s0 (good : List TAsk) (bad : List TAsk) (r0 : List TWrite) (v_ : Int) : Option (Int ⊕ (TAsk ⊕ Unit)) := law16_MsgForms_s0k n_ good bad r0 (fun x => some (.inl x)) (fun x => some (.inr (.inl x))) (fun x => some (.inr (.inr x))) v_
def law16_MsgForms_l0 (good : List TAsk) (bad : List TAsk) (r0 : List TWrite) (i : Int) : Option (TAsk ⊕ Unit) := iter (law16_MsgForms_s0 n_ good bad r0) n_ i
theorem law16_MsgForms_s0_bind {α : Type} (good : List TAsk) (bad : List TAsk) (r0 : List TWrite) (kc : Int → Option α) (k0 : TAsk → Option α) (k1 : Unit → Option α) (i : Int) : law16_MsgForms_s0k n_ good bad r0 kc k0 k1 i = (law16_MsgForms_s0 n_ good bad r0 i).bind fun s_ => alt s_ kc (fun s0_ => alt s0_ k0 k1) := by
  unfold law16_MsgForms_s0 law16_MsgForms_s0k; simp only [bind_cond, Option.bind_assoc, alt_bind, Option.bind_some, Option.bind_none, alt_inl, alt_inr]
@[reducible] def law16_MsgForms_s1k {α : Type} (bad : List TAsk) (r0 : List TWrite) (kc : Int → Option α) (k0 : Unit → Option α) (k1 : Unit → Option α) (i : Int) : Option α :=
  bif (decide (i < (bad.length : Int))) then (bif (inR i bad.length) then (((bad[i.toNat]?)).bind fun y_1 =>
      ((msg_MayAsk n_ y_1)).bind fun r_2 =>
      bif r_2 then k0 ()
      else bif (inR i bad.length) then (((bad[i.toNat]?)).bind fun y_3 =>
          ((msg_PutAsk n_ y_3)).bind fun r_4 =>
          bif ((r_4.length : Int) != 0) then k0 ()
          else kc (wi64 (i + 1)))
        else none)
    else none)
  else k1 ()
def law16_MsgForms_s1 (bad : List TAsk) (r0 : List TWrite) (v_ : Int) : Option (Int ⊕ (Unit ⊕ Unit)) := law16_MsgForms_s1k n_ bad r0 (fun x => some (.inl x)) (fun x => some (.inr (.inl x))) (fun x => some (.inr (.inr x))) v_
def law16_MsgForms_l1 (bad : List TAsk) (r0 : List TWrite) (i : Int) : Option (Unit ⊕ Unit) := iter (law16_MsgForms_s1 n_ bad r0) n_ i
theorem law16_MsgForms_s1_bind {α : Type} (bad : List TAsk) (r0 : List TWrite) (kc : Int → Option α) (k0 : Unit → Option α) (k1 : Unit → Option α) (i : Int) : law16_MsgForms_s1k n_ bad r0 kc k0 k1 i = (law16_MsgForms_s1 n_ bad r0 i).bind fun s_ => alt s_ kc (fun s0_ => alt s0_ k0 k1) := by
  unfold law16_MsgForms_s1 law16_MsgForms_s1k; simp only [bind_cond, Option.bind_assoc, alt_bind, Option.bind_some, Option.bind_none, alt_inl, alt_inr]
@[reducible] def law16_MsgForms_s2k {α : Type} (tells : List TTell) (none_ : List TTell) (r0 : List TWrite) (kc : Int → Option α) (k0 : TTell → Option α) (k1 : Unit → Option α) (i : Int) : Option α :=
  bif (decide (i < (tells.length : Int))) then (bif (inR i tells.length) then (((tells[i.toNat]?)).bind fun y_1 =>
      ((msg_PutTell n_ y_1)).bind fun r_2 =>
      ((msg_TakeTell n_ r_2)).bind fun r_3 =>
      bif (inR i tells.length) then (((tells[i.toNat]?)).bind fun y_4 =>
        bif (!(msg_MayTell y_4)) then k0 r_3.1
        else bif (!r_3.2) then k0 r_3.1
          else bif (inR i tells.length) then (((tells[i.toNat]?)).bind fun y_5 =>
              bif (!(TTell.eqb r_3.1 y_5)) then k0 r_3.1
              else kc (wi64 (i + 1)))
            else none)
      else none)
    else none)
  else k1 ()
def law16_MsgForms_s2 (tells : List TTell) (none_ : List TTell) (r0 : List TWrite) (v_ : Int) : Option (Int ⊕ (TTell ⊕ Unit)) := law16_MsgForms_s2k n_ tells none_ r0 (fun x => some (.inl x)) (fun x => some (.inr (.inl x))) (fun x => some (.inr (.inr x))) v_
def law16_MsgForms_l2 (tells : List TTell) (none_ : List TTell) (r0 : List TWrite) (i : Int) : Option (TTell ⊕ Unit) := iter (law16_MsgForms_s2 n_ tells none_ r0) n_ i
theorem law16_MsgForms_s2_bind {α : Type} (tells : List TTell) (none_ : List TTell) (r0 : List TWrite) (kc : Int → Option α) (k0 : TTell → Option α) (k1 : Unit → Option α) (i : Int) : law16_MsgForms_s2k n_ tells none_ r0 kc k0 k1 i = (law16_MsgForms_s2 n_ tells none_ r0 i).bind fun s_ => alt s_ kc (fun s0_ => alt s0_ k0 k1) := by
  unfold law16_MsgForms_s2 law16_MsgForms_s2k; simp only [bind_cond, Option.bind_assoc, alt_bind, Option.bind_some, Option.bind_none, alt_inl, alt_inr]
@[reducible] def law16_MsgForms_s3k {α : Type} (none_ : List TTell) (r0 : List TWrite) (kc : Int → Option α) (k0 : Unit → Option α) (k1 : Unit → Option α) (i : Int) : Option α :=
  bif (decide (i < (none_.length : Int))) then (bif (inR i none_.length) then (((none_[i.toNat]?)).bind fun y_1 =>
      bif (msg_MayTell y_1) then k0 ()
      else bif (inR i none_.length) then (((none_[i.toNat]?)).bind fun y_2 =>
          ((msg_PutTell n_ y_2)).bind fun r_3 =>
          bif ((r_3.length : Int) != 0) then k0 ()
          else kc (wi64 (i + 1)))
        else none)
    else none)
  else k1 ()
def law16_MsgForms_s3 (none_ : List TTell) (r0 : List TWrite) (v_ : Int) : Option (Int ⊕ (Unit ⊕ Unit)) := law16_MsgForms_s3k n_ none_ r0 (fun x => some (.inl x)) (fun x => some (.inr (.inl x))) (fun x => some (.inr (.inr x))) v_
def law16_MsgForms_l3 (none_ : List TTell) (r0 : List TWrite) (i : Int) : Option (Unit ⊕ Unit) := iter (law16_MsgForms_s3 n_ none_ r0) n_ i
theorem law16_MsgForms_s3_bind {α : Type} (none_ : List TTell) (r0 : List TWrite) (kc : Int → Option α) (k0 : Unit → Option α) (k1 : Unit → Option α) (i : Int) : law16_MsgForms_s3k n_ none_ r0 kc k0 k1 i = (law16_MsgForms_s3 n_ none_ r0 i).bind fun s_ => alt s_ kc (fun s0_ => alt s0_ k0 k1) := by
  unfold law16_MsgForms_s3 law16_MsgForms_s3k; simp only [bind_cond, Option.bind_assoc, alt_bind, Option.bind_some, Option.bind_none, alt_inl, alt_inr]
@[reducible] def law16_MsgForms_k {α : Type} (k0 : Bool → Option α) : Option α :=
  ((law16_begun n_)).bind fun r_1 =>
  bif (!r_1) then k0 false
  else ((law16_MsgForms_l0 n_ [(TAsk.mk 1 1 0 1 [97] 0 0 []), (TAsk.mk 2 3 1073741824 1073741824 [] 6 2 []), (TAsk.mk 3 1 0 1 [] 1 0 [(TWrite.mk 0 [120])]), (TAsk.mk 4 1 0 1 [] 1 0 []), (TAsk.mk 4 1 0 1 [] 1 0 [(TWrite.mk 0 [120])]), (TAsk.mk 5 1 0 1 [] 1 0 [])] [(TAsk.mk 0 0 0 0 [] 0 0 []), (TAsk.mk 6 1 0 1 [] 1 0 []), (TAsk.mk 1 0 0 1 [97] 0 0 []), (TAsk.mk 1 4 0 1 [97] 0 0 []), (TAsk.mk 1 1 0 0 [97] 0 0 []), (TAsk.mk 1 1 0 1 [] 0 0 []), (TAsk.mk 1 1 0 1 [97] 1 0 []), (TAsk.mk 1 1 0 1073741825 [97] 0 0 []), (TAsk.mk 2 1 0 1 [] 1 0 []), (TAsk.mk 2 1 0 1 [] 7 1 []), (TAsk.mk 2 1 0 1 [] 1 3 []), (TAsk.mk 3 1 0 1 [] 1 0 []), (TAsk.mk 3 1 0 1 [] 1 0 [(TWrite.mk 24 [120])]), (TAsk.mk 4 1 0 1 [] 1 0 [(TWrite.mk 0 [120]), (TWrite.mk 0 [120]), (TWrite.mk 0 [120]), (TWrite.mk 0 [120]), (TWrite.mk 0 [120]), (TWrite.mk 0 [120])]), (TAsk.mk 5 1 0 1 [] 1 1 []), (TAsk.mk 5 1 (-1) 1 [] 1 0 [])] [(TWrite.mk 0 [120]), (TWrite.mk 0 [120]), (TWrite.mk 0 [120]), (TWrite.mk 0 [120]), (TWrite.mk 0 [120]), (TWrite.mk 0 [120])] 0)).bind fun r_2 =>
    alt r_2 (fun a_3 =>
      k0 false) (fun b_4 =>
      ((law16_MsgForms_l1 n_ [(TAsk.mk 0 0 0 0 [] 0 0 []), (TAsk.mk 6 1 0 1 [] 1 0 []), (TAsk.mk 1 0 0 1 [97] 0 0 []), (TAsk.mk 1 4 0 1 [97] 0 0 []), (TAsk.mk 1 1 0 0 [97] 0 0 []), (TAsk.mk 1 1 0 1 [] 0 0 []), (TAsk.mk 1 1 0 1 [97] 1 0 []), (TAsk.mk 1 1 0 1073741825 [97] 0 0 []), (TAsk.mk 2 1 0 1 [] 1 0 []), (TAsk.mk 2 1 0 1 [] 7 1 []), (TAsk.mk 2 1 0 1 [] 1 3 []), (TAsk.mk 3 1 0 1 [] 1 0 []), (TAsk.mk 3 1 0 1 [] 1 0 [(TWrite.mk 24 [120])]), (TAsk.mk 4 1 0 1 [] 1 0 [(TWrite.mk 0 [120]), (TWrite.mk 0 [120]), (TWrite.mk 0 [120]), (TWrite.mk 0 [120]), (TWrite.mk 0 [120]), (TWrite.mk 0 [120])]), (TAsk.mk 5 1 0 1 [] 1 1 []), (TAsk.mk 5 1 (-1) 1 [] 1 0 [])] [(TWrite.mk 0 [120]), (TWrite.mk 0 [120]), (TWrite.mk 0 [120]), (TWrite.mk 0 [120]), (TWrite.mk 0 [120]), (TWrite.mk 0 [120])] 0)).bind fun r_5 =>
      alt r_5 (fun a_6 =>
        k0 false) (fun b_7 =>
        ((law16_MsgForms_l2 n_ [(TTell.mk 1 1 0 1 0 0 0 0 []), (TTell.mk 1 3 5 9 7 6 2 7 [98]), (TTell.mk 2 1 0 0 0 1 0 0 []), (TTell.mk 3 1 9 0 0 0 0 0 [])] [(TTell.mk 0 0 0 0 0 0 0 0 []), (TTell.mk 4 1 0 0 0 0 0 0 []), (TTell.mk 1 1 0 0 0 0 0 0 []), (TTell.mk 1 1 0 1 8 0 0 0 []), (TTell.mk 1 1 0 1 (-1) 0 0 0 []), (TTell.mk 1 1 0 1 0 7 0 0 []), (TTell.mk 1 1 0 1 0 0 3 0 []), (TTell.mk 2 1 0 0 0 0 0 0 []), (TTell.mk 2 1 0 1 0 1 0 0 []), (TTell.mk 3 1 0 0 0 1 0 0 []), (TTell.mk 3 4 0 0 0 0 0 0 []), (TTell.mk 3 1 1073741825 0 0 0 0 0 [])] [(TWrite.mk 0 [120]), (TWrite.mk 0 [120]), (TWrite.mk 0 [120]), (TWrite.mk 0 [120]), (TWrite.mk 0 [120]), (TWrite.mk 0 [120])] 0)).bind fun r_8 =>
        alt r_8 (fun a_9 =>
          k0 false) (fun b_10 =>
          ((law16_MsgForms_l3 n_ [(TTell.mk 0 0 0 0 0 0 0 0 []), (TTell.mk 4 1 0 0 0 0 0 0 []), (TTell.mk 1 1 0 0 0 0 0 0 []), (TTell.mk 1 1 0 1 8 0 0 0 []), (TTell.mk 1 1 0 1 (-1) 0 0 0 []), (TTell.mk 1 1 0 1 0 7 0 0 []), (TTell.mk 1 1 0 1 0 0 3 0 []), (TTell.mk 2 1 0 0 0 0 0 0 []), (TTell.mk 2 1 0 1 0 1 0 0 []), (TTell.mk 3 1 0 0 0 1 0 0 []), (TTell.mk 3 4 0 0 0 0 0 0 []), (TTell.mk 3 1 1073741825 0 0 0 0 0 [])] [(TWrite.mk 0 [120]), (TWrite.mk 0 [120]), (TWrite.mk 0 [120]), (TWrite.mk 0 [120]), (TWrite.mk 0 [120]), (TWrite.mk 0 [120])] 0)).bind fun r_11 =>
          alt r_11 (fun a_12 =>
            k0 false) (fun b_13 =>
            k0 true))))
def law16_MsgForms : Option Bool := law16_MsgForms_k n_ (fun x => some x)
theorem law16_MsgForms_bind {α : Type} (k0 : Bool → Option α) : law16_MsgForms_k n_ k0 = (law16_MsgForms n_).bind k0 := by
  unfold law16_MsgForms law16_MsgForms_k; simp only [bind_cond, Option.bind_assoc, alt_bind, Option.bind_some, Option.bind_none, alt_inl, alt_inr]

/-! tenancy/tenancylaw16.MsgApart -/
@[reducible] def law16_MsgApart_k {α : Type} (k0 : Bool → Option α) (a : List UInt8) (b : List UInt8) : Option α :=
  ((law16_begun n_)).bind fun r_1 =>
  bif (!r_1) then k0 false
  else bif (decide ((a.length : Int) > 20)) then k0 true
    else bif (decide ((b.length : Int) > 20)) then k0 true
      else ((made_Picks_Ask n_ (made_Made a))).bind fun r_2 =>
        ((made_Picks_Ask n_ (made_Made b))).bind fun r_3 =>
        ((made_Picks_Tell (made_Made a))).bind fun r_4 =>
        ((made_Picks_Tell (made_Made b))).bind fun r_5 =>
        ((msg_PutAsk n_ r_2.1)).bind fun r_6 =>
        ((msg_PutAsk n_ r_3.1)).bind fun r_7 =>
        ((msg_SameAsk n_ r_2.1 r_3.1)).bind fun r_8 =>
        bif ((r_6 == r_7) == r_8) then (((msg_PutTell n_ r_4.1)).bind fun r_9 =>
          ((msg_PutTell n_ r_5.1)).bind fun r_10 =>
          bif ((r_9 == r_10) == (TTell.eqb r_4.1 r_5.1)) then (((msg_SameAsk n_ r_2.1 r_2.1)).bind fun r_11 =>
            k0 r_11)
          else k0 false)
        else k0 false
def law16_MsgApart (a : List UInt8) (b : List UInt8) : Option Bool := law16_MsgApart_k n_ (fun x => some x) a b
theorem law16_MsgApart_bind {α : Type} (k0 : Bool → Option α) (a : List UInt8) (b : List UInt8) : law16_MsgApart_k n_ k0 a b = (law16_MsgApart n_ a b).bind k0 := by
  unfold law16_MsgApart law16_MsgApart_k; simp only [bind_cond, Option.bind_assoc, alt_bind, Option.bind_some, Option.bind_none, alt_inl, alt_inr]

/-! tenancy/tenancylaw16.MsgLong -/
@[reducible] def law16_MsgLong_s0k {α : Type} (o0 : Ttenancymade_Picks) (o1 : Ttenancymade_Picks) (x : TAsk) (y : TTell) (kc : (Int × Int) → Option α) (k0 : Int → Option α) (n : Int) (i : Int) : Option α :=
  bif (decide (i < (x.Writes.length : Int))) then (bif (inR i x.Writes.length) then (((x.Writes[i.toNat]?)).bind fun y_1 =>
      kc ((wi64 ((wi64 (n + 2)) + (y_1.B.length : Int))), (wi64 (i + 1))))
    else none)
  else k0 n
def law16_MsgLong_s0 (o0 : Ttenancymade_Picks) (o1 : Ttenancymade_Picks) (x : TAsk) (y : TTell) (v_ : Int × Int) : Option ((Int × Int) ⊕ Int) := law16_MsgLong_s0k o0 o1 x y (fun x => some (.inl x)) (fun x => some (.inr x)) v_.1 v_.2
def law16_MsgLong_l0 (o0 : Ttenancymade_Picks) (o1 : Ttenancymade_Picks) (x : TAsk) (y : TTell) (n : Int) (i : Int) : Option Int := iter (law16_MsgLong_s0 o0 o1 x y) n_ (n, i)
theorem law16_MsgLong_s0_bind {α : Type} (o0 : Ttenancymade_Picks) (o1 : Ttenancymade_Picks) (x : TAsk) (y : TTell) (kc : (Int × Int) → Option α) (k0 : Int → Option α) (n : Int) (i : Int) : law16_MsgLong_s0k o0 o1 x y kc k0 n i = (law16_MsgLong_s0 o0 o1 x y (n, i)).bind fun s_ => alt s_ kc k0 := by
  unfold law16_MsgLong_s0 law16_MsgLong_s0k; simp only [bind_cond, Option.bind_assoc, alt_bind, Option.bind_some, Option.bind_none, alt_inl, alt_inr]
@[reducible] def law16_MsgLong_k {α : Type} (k0 : Bool → Option α) (a : List UInt8) (b : List UInt8) : Option α :=
  ((law16_begun n_)).bind fun r_1 =>
  bif (!r_1) then k0 false
  else bif (decide ((a.length : Int) > 20)) then k0 true
    else bif (decide ((b.length : Int) > 20)) then k0 true
      else ((made_Picks_Ask n_ (made_Made a))).bind fun r_2 =>
        ((made_Picks_Tell (made_Made b))).bind fun r_3 =>
        ((law16_MsgLong_l0 n_ r_2.2 r_3.2 r_2.1 r_3.1 (wi64 (16 + (r_2.1.Name.length : Int))) 0)).bind fun r_4 =>
        ((msg_PutAsk n_ r_2.1)).bind fun r_5 =>
        bif ((r_5.length : Int) == r_4) then (((msg_PutTell n_ r_3.1)).bind fun r_6 =>
          k0 ((r_6.length : Int) == (wi64 (20 + (r_3.1.Body.length : Int)))))
        else k0 false
def law16_MsgLong (a : List UInt8) (b : List UInt8) : Option Bool := law16_MsgLong_k n_ (fun x => some x) a b
theorem law16_MsgLong_bind {α : Type} (k0 : Bool → Option α) (a : List UInt8) (b : List UInt8) : law16_MsgLong_k n_ k0 a b = (law16_MsgLong n_ a b).bind k0 := by
  unfold law16_MsgLong law16_MsgLong_k; simp only [bind_cond, Option.bind_assoc, alt_bind, Option.bind_some, Option.bind_none, alt_inl, alt_inr]

end
end Go.Proofs.Ytphcaobgkegbaaa.N
