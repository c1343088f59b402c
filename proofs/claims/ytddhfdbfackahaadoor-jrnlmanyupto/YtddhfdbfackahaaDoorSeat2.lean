/- The nice functions: what the program's functions come to. -/
import Derived.Test.YtddhfdbfackahaaDoorBase6
set_option linter.unusedVariables false
set_option linter.unusedSimpArgs false
set_option maxRecDepth 10000
namespace Go.Proofs.YtddhfdbfackahaaDoor.N
noncomputable section
variable (n_ : Nat)
@[reducible] def ref5_noughts_k {α : Type} (k : Unit → α) : α :=
  k ()
def ref5_noughts : Unit := ref5_noughts_k id
theorem ref5_noughts_bind {α : Type} (k : Unit → α) : ref5_noughts_k k = k (ref5_noughts) := by
  unfold ref5_noughts ref5_noughts_k; simp only [Bool.apply_cond k, id]
@[reducible] def ref5_New_s0k {α : Type} (n : Int) (kc : (Int × TDisk × TDisk) → Option α) (k0 : (TDisk × TDisk) → Option α) (i : Int) (o0 : TDisk) (d : TDisk) : Option α :=
  bif (decide (i < n)) then (bif (decide (n ≤ 64)) then (bif (decide ((d.Last.length + 1) ≤ lim)) then kc ((wi64 (i + 1)), (TDisk.mk [] [] o0.Arm o0.Down), (TDisk.mk (d.Last ++ [[0, 0, 0, 0, 0, 0, 0, 0, 0, 0, 0, 0, 0, 0, 0, 0, 0, 0, 0, 0, 0, 0, 0, 0, 0, 0, 0, 0, 0, 0, 0, 0]]) [] d.Arm d.Down))
      else none)
    else k0 ((TDisk.mk [] [] o0.Arm o0.Down), (TDisk.mk d.Last [] d.Arm d.Down)))
  else k0 ((TDisk.mk [] [] o0.Arm o0.Down), (TDisk.mk d.Last [] d.Arm d.Down))
def ref5_New_s0 (n : Int) (v_ : Int × TDisk × TDisk) : Option ((Int × TDisk × TDisk) ⊕ (TDisk × TDisk)) := ref5_New_s0k n (fun x => some (.inl x)) (fun x => some (.inr x)) v_.1 v_.2.1 v_.2.2
def ref5_New_l0 (n : Int) (i : Int) (o0 : TDisk) (d : TDisk) : Option (TDisk × TDisk) := iter (ref5_New_s0 n) n_ (i, o0, d)
theorem ref5_New_s0_bind {α : Type} (n : Int) (kc : (Int × TDisk × TDisk) → Option α) (k0 : (TDisk × TDisk) → Option α) (i : Int) (o0 : TDisk) (d : TDisk) : ref5_New_s0k n kc k0 i o0 d = (ref5_New_s0 n (i, o0, d)).bind fun s_ => alt s_ kc k0 := by
  unfold ref5_New_s0 ref5_New_s0k; simp only [bind_cond, Option.bind_assoc, alt_bind, Option.bind_some, Option.bind_none, alt_inl, alt_inr]
@[reducible] def ref5_New_k {α : Type} (k0 : TDisk → Option α) (n : Int) : Option α :=
  ((ref5_New_l0 n_ n 0 (TDisk.mk [] [] 0 false) (TDisk.mk [] [] 0 false))).bind fun r_1 =>
  k0 (TDisk.mk r_1.2.Last [] r_1.2.Arm r_1.2.Down)
def ref5_New (n : Int) : Option TDisk := ref5_New_k n_ (fun x => some x) n
theorem ref5_New_bind {α : Type} (k0 : TDisk → Option α) (n : Int) : ref5_New_k n_ k0 n = (ref5_New n_ n).bind k0 := by
  unfold ref5_New ref5_New_k; simp only [bind_cond, Option.bind_assoc, alt_bind, Option.bind_some, Option.bind_none, alt_inl, alt_inr]
@[reducible] def law6_sector_s0k {α : Type} (n : UInt8) (kc : (Int × List UInt8) → Option α) (k0 : (List UInt8) → Option α) (i : Int) (b : List UInt8) : Option α :=
  bif (decide (i < (b.length : Int))) then (bif (inR i b.length) then (((b[i.toNat]?)).bind fun y_1 =>
      kc ((wi64 (i + 1)), (b.set i.toNat (b8 (wu8 (wi64 ((wi64 ((wi64 (i8 n)) * 5)) + (wi64 (i * i)))))))))
    else none)
  else k0 b
def law6_sector_s0 (n : UInt8) (v_ : Int × List UInt8) : Option ((Int × List UInt8) ⊕ (List UInt8)) := law6_sector_s0k n (fun x => some (.inl x)) (fun x => some (.inr x)) v_.1 v_.2
def law6_sector_l0 (n : UInt8) (i : Int) (b : List UInt8) : Option (List UInt8) := iter (law6_sector_s0 n) n_ (i, b)
theorem law6_sector_s0_bind {α : Type} (n : UInt8) (kc : (Int × List UInt8) → Option α) (k0 : (List UInt8) → Option α) (i : Int) (b : List UInt8) : law6_sector_s0k n kc k0 i b = (law6_sector_s0 n (i, b)).bind fun s_ => alt s_ kc k0 := by
  unfold law6_sector_s0 law6_sector_s0k; simp only [bind_cond, Option.bind_assoc, alt_bind, Option.bind_some, Option.bind_none, alt_inl, alt_inr]
@[reducible] def law6_sector_k {α : Type} (k0 : (List UInt8) → Option α) (n : UInt8) : Option α :=
  ((law6_sector_l0 n_ n 0 [0, 0, 0, 0, 0, 0, 0, 0, 0, 0, 0, 0, 0, 0, 0, 0, 0, 0, 0, 0, 0, 0, 0, 0, 0, 0, 0, 0, 0, 0, 0, 0])).bind fun r_1 =>
  k0 r_1
def law6_sector (n : UInt8) : Option (List UInt8) := law6_sector_k n_ (fun x => some x) n
theorem law6_sector_bind {α : Type} (k0 : (List UInt8) → Option α) (n : UInt8) : law6_sector_k n_ k0 n = (law6_sector n_ n).bind k0 := by
  unfold law6_sector law6_sector_k; simp only [bind_cond, Option.bind_assoc, alt_bind, Option.bind_some, Option.bind_none, alt_inl, alt_inr]
@[reducible] def jrnl_may_s0k {α : Type} (home : Int) (l : List TPut) (t10 : List TPut) (t11 : Int) (d : TDisk) (kc : (Int × Int) → Option α) (k0 : TPut → Option α) (k1 : Unit → Option α) (last : Int) (t12 : Int) : Option α :=
  bif (decide (t12 < t11)) then (bif (inR t12 t10.length) then (((t10[t12.toNat]?)).bind fun y_1 =>
      bif (decide (y_1.At ≤ last)) then k0 y_1
      else bif (decide (y_1.At ≥ home)) then k0 y_1
        else bif ((y_1.B.length : Int) != 32) then k0 y_1
          else kc (y_1.At, (wi64 (t12 + 1))))
    else none)
  else k1 ()
def jrnl_may_s0 (home : Int) (l : List TPut) (t10 : List TPut) (t11 : Int) (d : TDisk) (v_ : Int × Int) : Option ((Int × Int) ⊕ (TPut ⊕ Unit)) := jrnl_may_s0k home l t10 t11 d (fun x => some (.inl x)) (fun x => some (.inr (.inl x))) (fun x => some (.inr (.inr x))) v_.1 v_.2
def jrnl_may_l0 (home : Int) (l : List TPut) (t10 : List TPut) (t11 : Int) (d : TDisk) (last : Int) (t12 : Int) : Option (TPut ⊕ Unit) := iter (jrnl_may_s0 home l t10 t11 d) n_ (last, t12)
theorem jrnl_may_s0_bind {α : Type} (home : Int) (l : List TPut) (t10 : List TPut) (t11 : Int) (d : TDisk) (kc : (Int × Int) → Option α) (k0 : TPut → Option α) (k1 : Unit → Option α) (last : Int) (t12 : Int) : jrnl_may_s0k home l t10 t11 d kc k0 k1 last t12 = (jrnl_may_s0 home l t10 t11 d (last, t12)).bind fun s_ => alt s_ kc (fun s0_ => alt s0_ k0 k1) := by
  unfold jrnl_may_s0 jrnl_may_s0k; simp only [bind_cond, Option.bind_assoc, alt_bind, Option.bind_some, Option.bind_none, alt_inl, alt_inr]
@[reducible] def jrnl_may_k {α : Type} (k0 : Bool → Option α) (d : TDisk) (home : Int) (l : List TPut) : Option α :=
  ((jrnl_may_l0 n_ home l l (l.length : Int) d (-1) 0)).bind fun r_1 =>
  alt r_1 (fun a_2 =>
    k0 false) (fun b_3 =>
    bif (decide ((l.length : Int) ≤ 16)) then k0 (decide ((wi64 (home + (l.length : Int))) < (d.Last.length : Int)))
    else k0 false)
def jrnl_may (d : TDisk) (home : Int) (l : List TPut) : Option Bool := jrnl_may_k n_ (fun x => some x) d home l
theorem jrnl_may_bind {α : Type} (k0 : Bool → Option α) (d : TDisk) (home : Int) (l : List TPut) : jrnl_may_k n_ k0 d home l = (jrnl_may n_ d home l).bind k0 := by
  unfold jrnl_may jrnl_may_k; simp only [bind_cond, Option.bind_assoc, alt_bind, Option.bind_some, Option.bind_none, alt_inl, alt_inr]
@[reducible] def jrnl_noughts_k {α : Type} (k : Unit → α) : α :=
  k ()
def jrnl_noughts : Unit := jrnl_noughts_k id
theorem jrnl_noughts_bind {α : Type} (k : Unit → α) : jrnl_noughts_k k = k (jrnl_noughts) := by
  unfold jrnl_noughts jrnl_noughts_k; simp only [Bool.apply_cond k, id]
@[reducible] def disk_twin_k {α : Type} (k : Unit → α) (d : TDisk) : α :=
  k ()
def disk_twin (d : TDisk) : Unit := disk_twin_k id d
theorem disk_twin_bind {α : Type} (k : Unit → α) (d : TDisk) : disk_twin_k k d = k (disk_twin d) := by
  unfold disk_twin disk_twin_k; simp only [Bool.apply_cond k, id]
@[reducible] def disk_there_k {α : Type} (k : Bool → α) (d : TDisk) (i : Int) : α :=
  bif (!d.Down) then (bif (decide (i ≥ 0)) then k (decide (i < (d.Last.length : Int)))
    else k false)
  else k false
def disk_there (d : TDisk) (i : Int) : Bool := disk_there_k id d i
theorem disk_there_bind {α : Type} (k : Bool → α) (d : TDisk) (i : Int) : disk_there_k k d i = k (disk_there d i) := by
  unfold disk_there disk_there_k; simp only [Bool.apply_cond k, id]
@[reducible] def disk_Write_k {α : Type} (k0 : (TDisk × Bool) → Option α) (d : TDisk) (i : Int) (b : List UInt8) : Option α :=
  bif (!(disk_there d i)) then k0 (d, false)
  else bif ((b.length : Int) != 32) then k0 (d, false)
    else bif (decide ((d.Wait.length + 1) ≤ lim)) then (bif (decide (d.Arm > 0)) then k0 ((TDisk.mk d.Last (d.Wait ++ [(TPut.mk i b)]) (wi64 (d.Arm - 1)) ((wi64 (d.Arm - 1)) == 0)), (!((wi64 (d.Arm - 1)) == 0)))
        else k0 ((TDisk.mk d.Last (d.Wait ++ [(TPut.mk i b)]) d.Arm d.Down), (!d.Down)))
      else none
def disk_Write (d : TDisk) (i : Int) (b : List UInt8) : Option (TDisk × Bool) := disk_Write_k (fun x => some x) d i b
theorem disk_Write_bind {α : Type} (k0 : (TDisk × Bool) → Option α) (d : TDisk) (i : Int) (b : List UInt8) : disk_Write_k k0 d i b = (disk_Write d i b).bind k0 := by
  unfold disk_Write disk_Write_k; simp only [bind_cond, Option.bind_assoc, alt_bind, Option.bind_some, Option.bind_none, alt_inl, alt_inr]
@[reducible] def jrnl_writer_does_k {α : Type} (k0 : Tjrnl_writer → Option α) (k1 : Tjrnl_writer → Option α) (d : TDisk) (ok : Bool) (w : Tjrnl_writer) : Option α :=
  bif (!ok) then k1 (Tjrnl_writer.mk d)
  else k0 (Tjrnl_writer.mk d)
def jrnl_writer_does (d : TDisk) (ok : Bool) (w : Tjrnl_writer) : Option (Tjrnl_writer ⊕ Tjrnl_writer) := jrnl_writer_does_k (fun x => some (.inl x)) (fun x => some (.inr x)) d ok w
theorem jrnl_writer_does_bind {α : Type} (k0 : Tjrnl_writer → Option α) (k1 : Tjrnl_writer → Option α) (d : TDisk) (ok : Bool) (w : Tjrnl_writer) : jrnl_writer_does_k k0 k1 d ok w = (jrnl_writer_does d ok w).bind (fun s0_ => alt s0_ k0 k1) := by
  unfold jrnl_writer_does jrnl_writer_does_k; simp only [bind_cond, Option.bind_assoc, alt_bind, Option.bind_some, Option.bind_none, alt_inl, alt_inr]
@[reducible] def jrnl_writer_write_k {α : Type} (k0 : (Tjrnl_writer × List (List UInt8) × List TPut) → Option α) (k1 : (Tjrnl_writer × List (List UInt8) × List TPut) → Option α) (i : Int) (b : List UInt8) (w : Tjrnl_writer) : Option α :=
  ((disk_Write w.d i b)).bind fun r_1 =>
  ((jrnl_writer_does r_1.1 r_1.2 w)).bind fun r_2 =>
  alt r_2 (fun a_3 =>
    k0 (a_3, w.d.Last, w.d.Wait)) (fun b_4 =>
    k1 (b_4, w.d.Last, w.d.Wait))
def jrnl_writer_write (i : Int) (b : List UInt8) (w : Tjrnl_writer) : Option ((Tjrnl_writer × List (List UInt8) × List TPut) ⊕ (Tjrnl_writer × List (List UInt8) × List TPut)) := jrnl_writer_write_k (fun x => some (.inl x)) (fun x => some (.inr x)) i b w
theorem jrnl_writer_write_bind {α : Type} (k0 : (Tjrnl_writer × List (List UInt8) × List TPut) → Option α) (k1 : (Tjrnl_writer × List (List UInt8) × List TPut) → Option α) (i : Int) (b : List UInt8) (w : Tjrnl_writer) : jrnl_writer_write_k k0 k1 i b w = (jrnl_writer_write i b w).bind (fun s0_ => alt s0_ k0 k1) := by
  unfold jrnl_writer_write jrnl_writer_write_k; simp only [bind_cond, Option.bind_assoc, alt_bind, Option.bind_some, Option.bind_none, alt_inl, alt_inr]
@[reducible] def disk_lasting_lasts_k {α : Type} (k0 : Tdisk_lasting → Option α) (p : TPut) (n : Int) (f : Tdisk_lasting) : Option α :=
  bif (decide (p.At < 0)) then k0 f
  else bif (decide (p.At ≥ (f.d.Last.length : Int))) then k0 f
    else bif (inR p.At f.d.Last.length) then (((f.d.Last[p.At.toNat]?)).bind fun y_1 =>
        bif (cutOk 0 (imax (imin (imin n (p.B.length : Int)) (y_1.length : Int)) 0) p.B.length) then (bif (inR p.At f.d.Last.length) then (((f.d.Last[p.At.toNat]?)).bind fun y_2 =>
            bif (cutOk (imax (imin (imin n (p.B.length : Int)) (y_1.length : Int)) 0) (y_2.length : Int) y_2.length) then (bif (decide (((cutL p.B 0 (imax (imin (imin n (p.B.length : Int)) (y_1.length : Int)) 0)).length + (cutL y_2 (imax (imin (imin n (p.B.length : Int)) (y_1.length : Int)) 0) (y_2.length : Int)).length) ≤ lim)) then (bif (inR p.At f.d.Last.length) then (((f.d.Last[p.At.toNat]?)).bind fun y_3 =>
                  k0 (Tdisk_lasting.mk (TDisk.mk (f.d.Last.set p.At.toNat ((cutL p.B 0 (imax (imin (imin n (p.B.length : Int)) (y_1.length : Int)) 0)) ++ (cutL y_2 (imax (imin (imin n (p.B.length : Int)) (y_1.length : Int)) 0) (y_2.length : Int)))) f.d.Wait f.d.Arm f.d.Down)))
                else none)
              else none)
            else none)
          else none)
        else none)
      else none
def disk_lasting_lasts (p : TPut) (n : Int) (f : Tdisk_lasting) : Option Tdisk_lasting := disk_lasting_lasts_k (fun x => some x) p n f
theorem disk_lasting_lasts_bind {α : Type} (k0 : Tdisk_lasting → Option α) (p : TPut) (n : Int) (f : Tdisk_lasting) : disk_lasting_lasts_k k0 p n f = (disk_lasting_lasts p n f).bind k0 := by
  unfold disk_lasting_lasts disk_lasting_lasts_k; simp only [bind_cond, Option.bind_assoc, alt_bind, Option.bind_some, Option.bind_none, alt_inl, alt_inr]
@[reducible] def disk_Flush_s0k {α : Type} (t18 : List TPut) (t19 : Int) (o0 : TDisk) (kc : (Int × TDisk × Tdisk_lasting) → Option α) (k0 : (TDisk × Tdisk_lasting) → Option α) (t20 : Int) (o1 : TDisk) (f : Tdisk_lasting) : Option α :=
  bif (decide (t20 < t19)) then (bif (inR t20 t18.length) then (((t18[t20.toNat]?)).bind fun y_1 =>
      ((disk_lasting_lasts y_1 32 f)).bind fun r_2 =>
      kc ((wi64 (t20 + 1)), (TDisk.mk [] [] o1.Arm o1.Down), r_2))
    else none)
  else k0 ((TDisk.mk [] [] o1.Arm o1.Down), f)
def disk_Flush_s0 (t18 : List TPut) (t19 : Int) (o0 : TDisk) (v_ : Int × TDisk × Tdisk_lasting) : Option ((Int × TDisk × Tdisk_lasting) ⊕ (TDisk × Tdisk_lasting)) := disk_Flush_s0k t18 t19 o0 (fun x => some (.inl x)) (fun x => some (.inr x)) v_.1 v_.2.1 v_.2.2
def disk_Flush_l0 (t18 : List TPut) (t19 : Int) (o0 : TDisk) (t20 : Int) (o1 : TDisk) (f : Tdisk_lasting) : Option (TDisk × Tdisk_lasting) := iter (disk_Flush_s0 t18 t19 o0) n_ (t20, o1, f)
theorem disk_Flush_s0_bind {α : Type} (t18 : List TPut) (t19 : Int) (o0 : TDisk) (kc : (Int × TDisk × Tdisk_lasting) → Option α) (k0 : (TDisk × Tdisk_lasting) → Option α) (t20 : Int) (o1 : TDisk) (f : Tdisk_lasting) : disk_Flush_s0k t18 t19 o0 kc k0 t20 o1 f = (disk_Flush_s0 t18 t19 o0 (t20, o1, f)).bind fun s_ => alt s_ kc k0 := by
  unfold disk_Flush_s0 disk_Flush_s0k; simp only [bind_cond, Option.bind_assoc, alt_bind, Option.bind_some, Option.bind_none, alt_inl, alt_inr]
@[reducible] def disk_Flush_k {α : Type} (k0 : (TDisk × Bool) → Option α) (d : TDisk) : Option α :=
  bif d.Down then k0 (d, false)
  else ((disk_Flush_l0 n_ d.Wait (d.Wait.length : Int) d 0 (TDisk.mk [] [] 0 false) (Tdisk_lasting.mk d))).bind fun r_1 =>
    k0 ((TDisk.mk r_1.2.d.Last [] r_1.2.d.Arm r_1.2.d.Down), true)
def disk_Flush (d : TDisk) : Option (TDisk × Bool) := disk_Flush_k n_ (fun x => some x) d
theorem disk_Flush_bind {α : Type} (k0 : (TDisk × Bool) → Option α) (d : TDisk) : disk_Flush_k n_ k0 d = (disk_Flush n_ d).bind k0 := by
  unfold disk_Flush disk_Flush_k; simp only [bind_cond, Option.bind_assoc, alt_bind, Option.bind_some, Option.bind_none, alt_inl, alt_inr]
@[reducible] def jrnl_writer_does_2_k {α : Type} (k0 : Tjrnl_writer → Option α) (k1 : Tjrnl_writer → Option α) (d : TDisk) (ok : Bool) (w : Tjrnl_writer) : Option α :=
  bif (!ok) then k1 (Tjrnl_writer.mk d)
  else k0 (Tjrnl_writer.mk d)
def jrnl_writer_does_2 (d : TDisk) (ok : Bool) (w : Tjrnl_writer) : Option (Tjrnl_writer ⊕ Tjrnl_writer) := jrnl_writer_does_2_k (fun x => some (.inl x)) (fun x => some (.inr x)) d ok w
theorem jrnl_writer_does_2_bind {α : Type} (k0 : Tjrnl_writer → Option α) (k1 : Tjrnl_writer → Option α) (d : TDisk) (ok : Bool) (w : Tjrnl_writer) : jrnl_writer_does_2_k k0 k1 d ok w = (jrnl_writer_does_2 d ok w).bind (fun s0_ => alt s0_ k0 k1) := by
  unfold jrnl_writer_does_2 jrnl_writer_does_2_k; simp only [bind_cond, Option.bind_assoc, alt_bind, Option.bind_some, Option.bind_none, alt_inl, alt_inr]
@[reducible] def jrnl_writer_flush_k {α : Type} (k0 : Tjrnl_writer → Option α) (k1 : Tjrnl_writer → Option α) (w : Tjrnl_writer) : Option α :=
  ((disk_Flush n_ w.d)).bind fun r_1 =>
  ((jrnl_writer_does_2 r_1.1 r_1.2 w)).bind fun r_2 =>
  alt r_2 (fun a_3 =>
    k0 a_3) (fun b_4 =>
    k1 b_4)
def jrnl_writer_flush (w : Tjrnl_writer) : Option (Tjrnl_writer ⊕ Tjrnl_writer) := jrnl_writer_flush_k n_ (fun x => some (.inl x)) (fun x => some (.inr x)) w
theorem jrnl_writer_flush_bind {α : Type} (k0 : Tjrnl_writer → Option α) (k1 : Tjrnl_writer → Option α) (w : Tjrnl_writer) : jrnl_writer_flush_k n_ k0 k1 w = (jrnl_writer_flush n_ w).bind (fun s0_ => alt s0_ k0 k1) := by
  unfold jrnl_writer_flush jrnl_writer_flush_k; simp only [bind_cond, Option.bind_assoc, alt_bind, Option.bind_some, Option.bind_none, alt_inl, alt_inr]
@[reducible] def jrnl_writer_write_2_k {α : Type} (k0 : Tjrnl_writer → Option α) (k1 : Tjrnl_writer → Option α) (i : Int) (b : List UInt8) (w : Tjrnl_writer) : Option α :=
  ((disk_Write w.d i b)).bind fun r_1 =>
  ((jrnl_writer_does_2 r_1.1 r_1.2 w)).bind fun r_2 =>
  alt r_2 (fun a_3 =>
    k0 a_3) (fun b_4 =>
    k1 b_4)
def jrnl_writer_write_2 (i : Int) (b : List UInt8) (w : Tjrnl_writer) : Option (Tjrnl_writer ⊕ Tjrnl_writer) := jrnl_writer_write_2_k (fun x => some (.inl x)) (fun x => some (.inr x)) i b w
theorem jrnl_writer_write_2_bind {α : Type} (k0 : Tjrnl_writer → Option α) (k1 : Tjrnl_writer → Option α) (i : Int) (b : List UInt8) (w : Tjrnl_writer) : jrnl_writer_write_2_k k0 k1 i b w = (jrnl_writer_write_2 i b w).bind (fun s0_ => alt s0_ k0 k1) := by
  unfold jrnl_writer_write_2 jrnl_writer_write_2_k; simp only [bind_cond, Option.bind_assoc, alt_bind, Option.bind_some, Option.bind_none, alt_inl, alt_inr]
@[reducible] def jrnl_noughts_2_k {α : Type} (k : Unit → α) : α :=
  k ()
def jrnl_noughts_2 : Unit := jrnl_noughts_2_k id
theorem jrnl_noughts_2_bind {α : Type} (k : Unit → α) : jrnl_noughts_2_k k = k (jrnl_noughts_2) := by
  unfold jrnl_noughts_2 jrnl_noughts_2_k; simp only [Bool.apply_cond k, id]
@[reducible] def jrnl_head_s0k {α : Type} (t16 : List TPut) (t17 : Int) (kc : (Int × List UInt8) → Option α) (k0 : (List UInt8) → Option α) (t18 : Int) (b : List UInt8) : Option α :=
  bif (decide (t18 < t17)) then (bif (inR t18 t16.length) then (((t16[t18.toNat]?)).bind fun y_1 =>
      bif (inR (wi64 (2 + t18)) b.length) then (((b[(wi64 (2 + t18)).toNat]?)).bind fun y_2 =>
        kc ((wi64 (t18 + 1)), (b.set (wi64 (2 + t18)).toNat (b8 (wu8 y_1.At)))))
      else none)
    else none)
  else k0 b
def jrnl_head_s0 (t16 : List TPut) (t17 : Int) (v_ : Int × List UInt8) : Option ((Int × List UInt8) ⊕ (List UInt8)) := jrnl_head_s0k t16 t17 (fun x => some (.inl x)) (fun x => some (.inr x)) v_.1 v_.2
def jrnl_head_l0 (t16 : List TPut) (t17 : Int) (t18 : Int) (b : List UInt8) : Option (List UInt8) := iter (jrnl_head_s0 t16 t17) n_ (t18, b)
theorem jrnl_head_s0_bind {α : Type} (t16 : List TPut) (t17 : Int) (kc : (Int × List UInt8) → Option α) (k0 : (List UInt8) → Option α) (t18 : Int) (b : List UInt8) : jrnl_head_s0k t16 t17 kc k0 t18 b = (jrnl_head_s0 t16 t17 (t18, b)).bind fun s_ => alt s_ kc k0 := by
  unfold jrnl_head_s0 jrnl_head_s0k; simp only [bind_cond, Option.bind_assoc, alt_bind, Option.bind_some, Option.bind_none, alt_inl, alt_inr]
@[reducible] def jrnl_head_k {α : Type} (k0 : (List UInt8) → Option α) (l : List TPut) : Option α :=
  bif (inR 1 ([0, 0, 0, 0, 0, 0, 0, 0, 0, 0, 0, 0, 0, 0, 0, 0, 0, 0, 0, 0, 0, 0, 0, 0, 0, 0, 0, 0, 0, 0, 0, 0].set 0 1).length) then (((([0, 0, 0, 0, 0, 0, 0, 0, 0, 0, 0, 0, 0, 0, 0, 0, 0, 0, 0, 0, 0, 0, 0, 0, 0, 0, 0, 0, 0, 0, 0, 0].set 0 1)[1]?)).bind fun y_1 =>
    bif (inR 31 (([0, 0, 0, 0, 0, 0, 0, 0, 0, 0, 0, 0, 0, 0, 0, 0, 0, 0, 0, 0, 0, 0, 0, 0, 0, 0, 0, 0, 0, 0, 0, 0].set 0 1).set 1 (b8 (wu8 (l.length : Int)))).length) then ((((([0, 0, 0, 0, 0, 0, 0, 0, 0, 0, 0, 0, 0, 0, 0, 0, 0, 0, 0, 0, 0, 0, 0, 0, 0, 0, 0, 0, 0, 0, 0, 0].set 0 1).set 1 (b8 (wu8 (l.length : Int))))[31]?)).bind fun y_2 =>
      ((jrnl_head_l0 n_ l (l.length : Int) 0 ((([0, 0, 0, 0, 0, 0, 0, 0, 0, 0, 0, 0, 0, 0, 0, 0, 0, 0, 0, 0, 0, 0, 0, 0, 0, 0, 0, 0, 0, 0, 0, 0].set 0 1).set 1 (b8 (wu8 (l.length : Int)))).set 31 1))).bind fun r_3 =>
      k0 r_3)
    else none)
  else none
def jrnl_head (l : List TPut) : Option (List UInt8) := jrnl_head_k n_ (fun x => some x) l
theorem jrnl_head_bind {α : Type} (k0 : (List UInt8) → Option α) (l : List TPut) : jrnl_head_k n_ k0 l = (jrnl_head n_ l).bind k0 := by
  unfold jrnl_head jrnl_head_k; simp only [bind_cond, Option.bind_assoc, alt_bind, Option.bind_some, Option.bind_none, alt_inl, alt_inr]
@[reducible] def jrnl_Commit_s0k {α : Type} (home : Int) (l : List TPut) (t54 : List TPut) (t55 : Int) (o0 : TDisk) (ok : Bool) (r4 : List (List UInt8)) (r5 : List TPut) (kc : (Int × TDisk × Tjrnl_writer) → Option α) (k0 : (TDisk × Tjrnl_writer × TPut) → Option α) (k1 : (TDisk × Tjrnl_writer) → Option α) (t56 : Int) (x : TDisk) (w : Tjrnl_writer) : Option α :=
  bif (decide (t56 < t55)) then (bif (inR t56 t54.length) then (((t54[t56.toNat]?)).bind fun y_1 =>
      ((jrnl_writer_write_2 (wi64 ((wi64 (home + 1)) + t56)) y_1.B w)).bind fun r_2 =>
      alt r_2 (fun a_3 =>
        kc ((wi64 (t56 + 1)), (TDisk.mk [] [] x.Arm x.Down), a_3)) (fun b_4 =>
        k0 ((TDisk.mk [] [] x.Arm x.Down), b_4, y_1)))
    else none)
  else k1 ((TDisk.mk [] [] x.Arm x.Down), w)
def jrnl_Commit_s0 (home : Int) (l : List TPut) (t54 : List TPut) (t55 : Int) (o0 : TDisk) (ok : Bool) (r4 : List (List UInt8)) (r5 : List TPut) (v_ : Int × TDisk × Tjrnl_writer) : Option ((Int × TDisk × Tjrnl_writer) ⊕ ((TDisk × Tjrnl_writer × TPut) ⊕ (TDisk × Tjrnl_writer))) := jrnl_Commit_s0k home l t54 t55 o0 ok r4 r5 (fun x => some (.inl x)) (fun x => some (.inr (.inl x))) (fun x => some (.inr (.inr x))) v_.1 v_.2.1 v_.2.2
def jrnl_Commit_l0 (home : Int) (l : List TPut) (t54 : List TPut) (t55 : Int) (o0 : TDisk) (ok : Bool) (r4 : List (List UInt8)) (r5 : List TPut) (t56 : Int) (x : TDisk) (w : Tjrnl_writer) : Option ((TDisk × Tjrnl_writer × TPut) ⊕ (TDisk × Tjrnl_writer)) := iter (jrnl_Commit_s0 home l t54 t55 o0 ok r4 r5) n_ (t56, x, w)
theorem jrnl_Commit_s0_bind {α : Type} (home : Int) (l : List TPut) (t54 : List TPut) (t55 : Int) (o0 : TDisk) (ok : Bool) (r4 : List (List UInt8)) (r5 : List TPut) (kc : (Int × TDisk × Tjrnl_writer) → Option α) (k0 : (TDisk × Tjrnl_writer × TPut) → Option α) (k1 : (TDisk × Tjrnl_writer) → Option α) (t56 : Int) (x : TDisk) (w : Tjrnl_writer) : jrnl_Commit_s0k home l t54 t55 o0 ok r4 r5 kc k0 k1 t56 x w = (jrnl_Commit_s0 home l t54 t55 o0 ok r4 r5 (t56, x, w)).bind fun s_ => alt s_ kc (fun s0_ => alt s0_ k0 k1) := by
  unfold jrnl_Commit_s0 jrnl_Commit_s0k; simp only [bind_cond, Option.bind_assoc, alt_bind, Option.bind_some, Option.bind_none, alt_inl, alt_inr]
@[reducible] def jrnl_Commit_s1k {α : Type} (t79 : List TPut) (t80 : Int) (o0 : TDisk) (ok : Bool) (r4 : List (List UInt8)) (r5 : List TPut) (kc : (Int × TDisk × Tjrnl_writer) → Option α) (k0 : (TDisk × Tjrnl_writer × TPut) → Option α) (k1 : (TDisk × Tjrnl_writer) → Option α) (t81 : Int) (x : TDisk) (w : Tjrnl_writer) : Option α :=
  bif (decide (t81 < t80)) then (bif (inR t81 t79.length) then (((t79[t81.toNat]?)).bind fun y_1 =>
      ((jrnl_writer_write_2 y_1.At y_1.B w)).bind fun r_2 =>
      alt r_2 (fun a_3 =>
        kc ((wi64 (t81 + 1)), (TDisk.mk [] [] x.Arm x.Down), a_3)) (fun b_4 =>
        k0 ((TDisk.mk [] [] x.Arm x.Down), b_4, y_1)))
    else none)
  else k1 ((TDisk.mk [] [] x.Arm x.Down), w)
def jrnl_Commit_s1 (t79 : List TPut) (t80 : Int) (o0 : TDisk) (ok : Bool) (r4 : List (List UInt8)) (r5 : List TPut) (v_ : Int × TDisk × Tjrnl_writer) : Option ((Int × TDisk × Tjrnl_writer) ⊕ ((TDisk × Tjrnl_writer × TPut) ⊕ (TDisk × Tjrnl_writer))) := jrnl_Commit_s1k t79 t80 o0 ok r4 r5 (fun x => some (.inl x)) (fun x => some (.inr (.inl x))) (fun x => some (.inr (.inr x))) v_.1 v_.2.1 v_.2.2
def jrnl_Commit_l1 (t79 : List TPut) (t80 : Int) (o0 : TDisk) (ok : Bool) (r4 : List (List UInt8)) (r5 : List TPut) (t81 : Int) (x : TDisk) (w : Tjrnl_writer) : Option ((TDisk × Tjrnl_writer × TPut) ⊕ (TDisk × Tjrnl_writer)) := iter (jrnl_Commit_s1 t79 t80 o0 ok r4 r5) n_ (t81, x, w)
theorem jrnl_Commit_s1_bind {α : Type} (t79 : List TPut) (t80 : Int) (o0 : TDisk) (ok : Bool) (r4 : List (List UInt8)) (r5 : List TPut) (kc : (Int × TDisk × Tjrnl_writer) → Option α) (k0 : (TDisk × Tjrnl_writer × TPut) → Option α) (k1 : (TDisk × Tjrnl_writer) → Option α) (t81 : Int) (x : TDisk) (w : Tjrnl_writer) : jrnl_Commit_s1k t79 t80 o0 ok r4 r5 kc k0 k1 t81 x w = (jrnl_Commit_s1 t79 t80 o0 ok r4 r5 (t81, x, w)).bind fun s_ => alt s_ kc (fun s0_ => alt s0_ k0 k1) := by
  unfold jrnl_Commit_s1 jrnl_Commit_s1k; simp only [bind_cond, Option.bind_assoc, alt_bind, Option.bind_some, Option.bind_none, alt_inl, alt_inr]
@[reducible] def jrnl_Commit_k {α : Type} (k0 : (TDisk × Bool) → Option α) (d : TDisk) (home : Int) (l : List TPut) : Option α :=
  bif ((l.length : Int) == 0) then k0 (d, true)
  else ((jrnl_may n_ d home l)).bind fun r_1 =>
    bif (!r_1) then k0 (d, false)
    else ((jrnl_writer_write home [0, 0, 0, 0, 0, 0, 0, 0, 0, 0, 0, 0, 0, 0, 0, 0, 0, 0, 0, 0, 0, 0, 0, 0, 0, 0, 0, 0, 0, 0, 0, 0] (Tjrnl_writer.mk d))).bind fun r_2 =>
      alt r_2 (fun a_3 =>
        ((jrnl_writer_flush n_ a_3.1)).bind fun r_4 =>
        alt r_4 (fun a_5 =>
          ((jrnl_Commit_l0 n_ home l l (l.length : Int) d false a_3.2.1 a_3.2.2 0 (TDisk.mk [] [] 0 false) a_5)).bind fun r_6 =>
          alt r_6 (fun a_7 =>
            k0 (a_7.2.1.d, false)) (fun b_8 =>
            ((jrnl_writer_flush n_ b_8.2)).bind fun r_9 =>
            alt r_9 (fun a_10 =>
              ((jrnl_head n_ l)).bind fun r_11 =>
              ((jrnl_writer_write_2 home r_11 a_10)).bind fun r_12 =>
              alt r_12 (fun a_13 =>
                ((jrnl_writer_flush n_ a_13)).bind fun r_14 =>
                alt r_14 (fun a_15 =>
                  ((jrnl_Commit_l1 n_ l (l.length : Int) d false a_3.2.1 a_3.2.2 0 (TDisk.mk [] [] b_8.1.Arm b_8.1.Down) a_15)).bind fun r_16 =>
                  alt r_16 (fun a_17 =>
                    k0 (a_17.2.1.d, false)) (fun b_18 =>
                    ((jrnl_writer_flush n_ b_18.2)).bind fun r_19 =>
                    alt r_19 (fun a_20 =>
                      k0 (a_20.d, true)) (fun b_21 =>
                      k0 (b_21.d, false)))) (fun b_22 =>
                  k0 (b_22.d, false))) (fun b_23 =>
                k0 (b_23.d, false))) (fun b_24 =>
              k0 (b_24.d, false)))) (fun b_25 =>
          k0 (b_25.d, false))) (fun b_26 =>
        k0 (b_26.1.d, false))
def jrnl_Commit (d : TDisk) (home : Int) (l : List TPut) : Option (TDisk × Bool) := jrnl_Commit_k n_ (fun x => some x) d home l
theorem jrnl_Commit_bind {α : Type} (k0 : (TDisk × Bool) → Option α) (d : TDisk) (home : Int) (l : List TPut) : jrnl_Commit_k n_ k0 d home l = (jrnl_Commit n_ d home l).bind k0 := by
  unfold jrnl_Commit jrnl_Commit_k; simp only [bind_cond, Option.bind_assoc, alt_bind, Option.bind_some, Option.bind_none, alt_inl, alt_inr]
@[reducible] def jrnl_writer_read_k {α : Type} (k0 : (List UInt8 × Tjrnl_writer × List (List UInt8) × List TPut) → Option α) (k1 : (Tjrnl_writer × List (List UInt8) × List TPut) → Option α) (i : Int) (w : Tjrnl_writer) : Option α :=
  ((jrnl_writer_does w.d (disk_Read w.d i).2 w)).bind fun r_1 =>
  alt r_1 (fun a_2 =>
    k0 ((disk_Read w.d i).1, a_2, w.d.Last, w.d.Wait)) (fun b_3 =>
    k1 (b_3, w.d.Last, w.d.Wait))
def jrnl_writer_read (i : Int) (w : Tjrnl_writer) : Option ((List UInt8 × Tjrnl_writer × List (List UInt8) × List TPut) ⊕ (Tjrnl_writer × List (List UInt8) × List TPut)) := jrnl_writer_read_k (fun x => some (.inl x)) (fun x => some (.inr x)) i w
theorem jrnl_writer_read_bind {α : Type} (k0 : (List UInt8 × Tjrnl_writer × List (List UInt8) × List TPut) → Option α) (k1 : (Tjrnl_writer × List (List UInt8) × List TPut) → Option α) (i : Int) (w : Tjrnl_writer) : jrnl_writer_read_k k0 k1 i w = (jrnl_writer_read i w).bind (fun s0_ => alt s0_ k0 k1) := by
  unfold jrnl_writer_read jrnl_writer_read_k; simp only [bind_cond, Option.bind_assoc, alt_bind, Option.bind_some, Option.bind_none, alt_inl, alt_inr]
@[reducible] def strings_trimRightByte_s0k {α : Type} (c : UInt8) (kc : (List UInt8) → Option α) (k0 : (List UInt8) → Option α) (s : List UInt8) : Option α :=
  bif (decide ((s.length : Int) > 0)) then (bif (inR (wi64 ((s.length : Int) - 1)) s.length) then (((s[(wi64 ((s.length : Int) - 1)).toNat]?)).bind fun y_1 =>
      bif ((i8 y_1) == (i8 c)) then (bif (cutOk 0 (wi64 ((s.length : Int) - 1)) s.length) then kc (cutL s 0 (wi64 ((s.length : Int) - 1)))
        else none)
      else k0 s)
    else none)
  else k0 s
def strings_trimRightByte_s0 (c : UInt8) (v_ : List UInt8) : Option ((List UInt8) ⊕ (List UInt8)) := strings_trimRightByte_s0k c (fun x => some (.inl x)) (fun x => some (.inr x)) v_
def strings_trimRightByte_l0 (c : UInt8) (s : List UInt8) : Option (List UInt8) := iter (strings_trimRightByte_s0 c) n_ s
theorem strings_trimRightByte_s0_bind {α : Type} (c : UInt8) (kc : (List UInt8) → Option α) (k0 : (List UInt8) → Option α) (s : List UInt8) : strings_trimRightByte_s0k c kc k0 s = (strings_trimRightByte_s0 c s).bind fun s_ => alt s_ kc k0 := by
  unfold strings_trimRightByte_s0 strings_trimRightByte_s0k; simp only [bind_cond, Option.bind_assoc, alt_bind, Option.bind_some, Option.bind_none, alt_inl, alt_inr]
@[reducible] def strings_trimRightByte_k {α : Type} (k0 : (List UInt8) → Option α) (s : List UInt8) (c : UInt8) : Option α :=
  ((strings_trimRightByte_l0 n_ c s)).bind fun r_1 =>
  k0 r_1
def strings_trimRightByte (s : List UInt8) (c : UInt8) : Option (List UInt8) := strings_trimRightByte_k n_ (fun x => some x) s c
theorem strings_trimRightByte_bind {α : Type} (k0 : (List UInt8) → Option α) (s : List UInt8) (c : UInt8) : strings_trimRightByte_k n_ k0 s c = (strings_trimRightByte n_ s c).bind k0 := by
  unfold strings_trimRightByte strings_trimRightByte_k; simp only [bind_cond, Option.bind_assoc, alt_bind, Option.bind_some, Option.bind_none, alt_inl, alt_inr]
@[reducible] def strings_trimLeftByte_s0k {α : Type} (c : UInt8) (kc : (List UInt8) → Option α) (k0 : (List UInt8) → Option α) (s : List UInt8) : Option α :=
  bif (decide ((s.length : Int) > 0)) then (bif (inR 0 s.length) then (((s[0]?)).bind fun y_1 =>
      bif ((i8 y_1) == (i8 c)) then (bif (cutOk 1 (s.length : Int) s.length) then kc (cutL s 1 (s.length : Int))
        else none)
      else k0 s)
    else none)
  else k0 s
def strings_trimLeftByte_s0 (c : UInt8) (v_ : List UInt8) : Option ((List UInt8) ⊕ (List UInt8)) := strings_trimLeftByte_s0k c (fun x => some (.inl x)) (fun x => some (.inr x)) v_
def strings_trimLeftByte_l0 (c : UInt8) (s : List UInt8) : Option (List UInt8) := iter (strings_trimLeftByte_s0 c) n_ s
theorem strings_trimLeftByte_s0_bind {α : Type} (c : UInt8) (kc : (List UInt8) → Option α) (k0 : (List UInt8) → Option α) (s : List UInt8) : strings_trimLeftByte_s0k c kc k0 s = (strings_trimLeftByte_s0 c s).bind fun s_ => alt s_ kc k0 := by
  unfold strings_trimLeftByte_s0 strings_trimLeftByte_s0k; simp only [bind_cond, Option.bind_assoc, alt_bind, Option.bind_some, Option.bind_none, alt_inl, alt_inr]
@[reducible] def strings_trimLeftByte_k {α : Type} (k0 : (List UInt8) → Option α) (s : List UInt8) (c : UInt8) : Option α :=
  ((strings_trimLeftByte_l0 n_ c s)).bind fun r_1 =>
  k0 r_1
def strings_trimLeftByte (s : List UInt8) (c : UInt8) : Option (List UInt8) := strings_trimLeftByte_k n_ (fun x => some x) s c
theorem strings_trimLeftByte_bind {α : Type} (k0 : (List UInt8) → Option α) (s : List UInt8) (c : UInt8) : strings_trimLeftByte_k n_ k0 s c = (strings_trimLeftByte n_ s c).bind k0 := by
  unfold strings_trimLeftByte strings_trimLeftByte_k; simp only [bind_cond, Option.bind_assoc, alt_bind, Option.bind_some, Option.bind_none, alt_inl, alt_inr]
@[reducible] def strings_Trim_k {α : Type} (k0 : (List UInt8) → Option α) (s : List UInt8) : Option α :=
  bif (s == []) then k0 s
  else ((strings_trimRightByte n_ s 0)).bind fun r_1 =>
    ((strings_trimLeftByte n_ r_1 0)).bind fun r_2 =>
    k0 r_2
def strings_Trim (s : List UInt8) : Option (List UInt8) := strings_Trim_k n_ (fun x => some x) s
theorem strings_Trim_bind {α : Type} (k0 : (List UInt8) → Option α) (s : List UInt8) : strings_Trim_k n_ k0 s = (strings_Trim n_ s).bind k0 := by
  unfold strings_Trim strings_Trim_k; simp only [bind_cond, Option.bind_assoc, alt_bind, Option.bind_some, Option.bind_none, alt_inl, alt_inr]
@[reducible] def jrnl_named_s0k {α : Type} (home : Int) (s : List UInt8) (n : Int) (t44 : Int) (o0 : TDisk) (r1 : List UInt8) (kc : (Int × Int × List Int) → Option α) (k0 : (List Int) → Option α) (k1 : (List Int) → Option α) (last : Int) (t45 : Int) (l : List Int) : Option α :=
  bif (decide (t45 < t44)) then (bif (inR t45 r1.length) then (((r1[t45.toNat]?)).bind fun y_1 =>
      bif (decide ((wi64 (i8 y_1)) ≤ last)) then k0 l
      else bif (decide ((wi64 (i8 y_1)) ≥ home)) then k0 l
        else bif (decide ((l.length + 1) ≤ lim)) then kc ((wi64 (i8 y_1)), (wi64 (t45 + 1)), (l ++ [(wi64 (i8 y_1))]))
          else none)
    else none)
  else k1 l
def jrnl_named_s0 (home : Int) (s : List UInt8) (n : Int) (t44 : Int) (o0 : TDisk) (r1 : List UInt8) (v_ : Int × Int × List Int) : Option ((Int × Int × List Int) ⊕ ((List Int) ⊕ (List Int))) := jrnl_named_s0k home s n t44 o0 r1 (fun x => some (.inl x)) (fun x => some (.inr (.inl x))) (fun x => some (.inr (.inr x))) v_.1 v_.2.1 v_.2.2
def jrnl_named_l0 (home : Int) (s : List UInt8) (n : Int) (t44 : Int) (o0 : TDisk) (r1 : List UInt8) (last : Int) (t45 : Int) (l : List Int) : Option ((List Int) ⊕ (List Int)) := iter (jrnl_named_s0 home s n t44 o0 r1) n_ (last, t45, l)
theorem jrnl_named_s0_bind {α : Type} (home : Int) (s : List UInt8) (n : Int) (t44 : Int) (o0 : TDisk) (r1 : List UInt8) (kc : (Int × Int × List Int) → Option α) (k0 : (List Int) → Option α) (k1 : (List Int) → Option α) (last : Int) (t45 : Int) (l : List Int) : jrnl_named_s0k home s n t44 o0 r1 kc k0 k1 last t45 l = (jrnl_named_s0 home s n t44 o0 r1 (last, t45, l)).bind fun s_ => alt s_ kc (fun s0_ => alt s0_ k0 k1) := by
  unfold jrnl_named_s0 jrnl_named_s0k; simp only [bind_cond, Option.bind_assoc, alt_bind, Option.bind_some, Option.bind_none, alt_inl, alt_inr]
@[reducible] def jrnl_named_k {α : Type} (k0 : (List Int × Bool) → Option α) (d : TDisk) (home : Int) (s : List UInt8) : Option α :=
  bif (inR 0 s.length) then (((s[0]?)).bind fun y_1 =>
    bif ((i8 y_1) != 1) then k0 ([], false)
    else bif (inR 31 s.length) then (((s[31]?)).bind fun y_2 =>
        bif ((i8 y_2) != 1) then k0 ([], false)
        else bif (inR 1 s.length) then (((s[1]?)).bind fun y_3 =>
            bif (decide ((wi64 (i8 y_3)) < 1)) then k0 ([], false)
            else bif (decide ((wi64 (i8 y_3)) > 16)) then k0 ([], false)
              else bif (decide ((wi64 (home + (wi64 (i8 y_3)))) ≥ (d.Last.length : Int))) then k0 ([], false)
                else bif (cutOk 2 (wi64 (2 + (wi64 (i8 y_3)))) s.length) then (((jrnl_named_l0 n_ home s (wi64 (i8 y_3)) ((cutL s 2 (wi64 (2 + (wi64 (i8 y_3))))).length : Int) d (cutL s 2 (wi64 (2 + (wi64 (i8 y_3))))) (-1) 0 [])).bind fun r_4 =>
                    alt r_4 (fun a_5 =>
                      k0 ([], false)) (fun b_6 =>
                      bif (cutOk (wi64 (2 + (wi64 (i8 y_3)))) 31 s.length) then (((strings_Trim n_ (cutL s (wi64 (2 + (wi64 (i8 y_3)))) 31))).bind fun r_7 =>
                        k0 (b_6, (r_7 == [])))
                      else none))
                  else none)
          else none)
      else none)
  else none
def jrnl_named (d : TDisk) (home : Int) (s : List UInt8) : Option (List Int × Bool) := jrnl_named_k n_ (fun x => some x) d home s
theorem jrnl_named_bind {α : Type} (k0 : (List Int × Bool) → Option α) (d : TDisk) (home : Int) (s : List UInt8) : jrnl_named_k n_ k0 d home s = (jrnl_named n_ d home s).bind k0 := by
  unfold jrnl_named jrnl_named_k; simp only [bind_cond, Option.bind_assoc, alt_bind, Option.bind_some, Option.bind_none, alt_inl, alt_inr]
@[reducible] def jrnl_writer_read_2_k {α : Type} (k0 : (List UInt8 × Tjrnl_writer) → Option α) (k1 : Tjrnl_writer → Option α) (i : Int) (w : Tjrnl_writer) : Option α :=
  ((jrnl_writer_does_2 w.d (disk_Read w.d i).2 w)).bind fun r_1 =>
  alt r_1 (fun a_2 =>
    k0 ((disk_Read w.d i).1, a_2)) (fun b_3 =>
    k1 b_3)
def jrnl_writer_read_2 (i : Int) (w : Tjrnl_writer) : Option ((List UInt8 × Tjrnl_writer) ⊕ Tjrnl_writer) := jrnl_writer_read_2_k (fun x => some (.inl x)) (fun x => some (.inr x)) i w
theorem jrnl_writer_read_2_bind {α : Type} (k0 : (List UInt8 × Tjrnl_writer) → Option α) (k1 : Tjrnl_writer → Option α) (i : Int) (w : Tjrnl_writer) : jrnl_writer_read_2_k k0 k1 i w = (jrnl_writer_read_2 i w).bind (fun s0_ => alt s0_ k0 k1) := by
  unfold jrnl_writer_read_2 jrnl_writer_read_2_k; simp only [bind_cond, Option.bind_assoc, alt_bind, Option.bind_some, Option.bind_none, alt_inl, alt_inr]
@[reducible] def jrnl_Mend_s0k {α : Type} (home : Int) (t53 : List Int) (t54 : Int) (o0 : TDisk) (ok : Bool) (r4 : List (List UInt8)) (r5 : List TPut) (kc : (Int × TDisk × Tjrnl_writer) → Option α) (k0 : (TDisk × Tjrnl_writer) → Option α) (k1 : (TDisk × Tjrnl_writer) → Option α) (t55 : Int) (x : TDisk) (w : Tjrnl_writer) : Option α :=
  bif (decide (t55 < t54)) then (bif (inR t55 t53.length) then (((t53[t55.toNat]?)).bind fun y_1 =>
      ((jrnl_writer_read_2 (wi64 ((wi64 (home + 1)) + t55)) w)).bind fun r_2 =>
      alt r_2 (fun a_3 =>
        ((jrnl_writer_write_2 y_1 a_3.1 a_3.2)).bind fun r_4 =>
        alt r_4 (fun a_5 =>
          kc ((wi64 (t55 + 1)), (TDisk.mk [] [] x.Arm x.Down), a_5)) (fun b_6 =>
          k0 ((TDisk.mk [] [] x.Arm x.Down), b_6))) (fun b_7 =>
        k0 ((TDisk.mk [] [] x.Arm x.Down), b_7)))
    else none)
  else k1 ((TDisk.mk [] [] x.Arm x.Down), w)
def jrnl_Mend_s0 (home : Int) (t53 : List Int) (t54 : Int) (o0 : TDisk) (ok : Bool) (r4 : List (List UInt8)) (r5 : List TPut) (v_ : Int × TDisk × Tjrnl_writer) : Option ((Int × TDisk × Tjrnl_writer) ⊕ ((TDisk × Tjrnl_writer) ⊕ (TDisk × Tjrnl_writer))) := jrnl_Mend_s0k home t53 t54 o0 ok r4 r5 (fun x => some (.inl x)) (fun x => some (.inr (.inl x))) (fun x => some (.inr (.inr x))) v_.1 v_.2.1 v_.2.2
def jrnl_Mend_l0 (home : Int) (t53 : List Int) (t54 : Int) (o0 : TDisk) (ok : Bool) (r4 : List (List UInt8)) (r5 : List TPut) (t55 : Int) (x : TDisk) (w : Tjrnl_writer) : Option ((TDisk × Tjrnl_writer) ⊕ (TDisk × Tjrnl_writer)) := iter (jrnl_Mend_s0 home t53 t54 o0 ok r4 r5) n_ (t55, x, w)
theorem jrnl_Mend_s0_bind {α : Type} (home : Int) (t53 : List Int) (t54 : Int) (o0 : TDisk) (ok : Bool) (r4 : List (List UInt8)) (r5 : List TPut) (kc : (Int × TDisk × Tjrnl_writer) → Option α) (k0 : (TDisk × Tjrnl_writer) → Option α) (k1 : (TDisk × Tjrnl_writer) → Option α) (t55 : Int) (x : TDisk) (w : Tjrnl_writer) : jrnl_Mend_s0k home t53 t54 o0 ok r4 r5 kc k0 k1 t55 x w = (jrnl_Mend_s0 home t53 t54 o0 ok r4 r5 (t55, x, w)).bind fun s_ => alt s_ kc (fun s0_ => alt s0_ k0 k1) := by
  unfold jrnl_Mend_s0 jrnl_Mend_s0k; simp only [bind_cond, Option.bind_assoc, alt_bind, Option.bind_some, Option.bind_none, alt_inl, alt_inr]
@[reducible] def jrnl_Mend_k {α : Type} (k0 : (TDisk × Bool) → Option α) (d : TDisk) (home : Int) : Option α :=
  ((jrnl_writer_read home (Tjrnl_writer.mk d))).bind fun r_1 =>
  alt r_1 (fun a_2 =>
    bif ((a_2.1.length : Int) != 32) then k0 (a_2.2.1.d, false)
    else ((jrnl_named n_ d home a_2.1)).bind fun r_3 =>
      bif (!r_3.2) then k0 (a_2.2.1.d, false)
      else ((jrnl_Mend_l0 n_ home r_3.1 (r_3.1.length : Int) d false a_2.2.2.1 a_2.2.2.2 0 (TDisk.mk [] [] 0 false) a_2.2.1)).bind fun r_4 =>
        alt r_4 (fun a_5 =>
          k0 (a_5.2.d, false)) (fun b_6 =>
          ((jrnl_writer_flush n_ b_6.2)).bind fun r_7 =>
          alt r_7 (fun a_8 =>
            k0 (a_8.d, true)) (fun b_9 =>
            k0 (b_9.d, false)))) (fun b_10 =>
    k0 (b_10.1.d, false))
def jrnl_Mend (d : TDisk) (home : Int) : Option (TDisk × Bool) := jrnl_Mend_k n_ (fun x => some x) d home
theorem jrnl_Mend_bind {α : Type} (k0 : (TDisk × Bool) → Option α) (d : TDisk) (home : Int) : jrnl_Mend_k n_ k0 d home = (jrnl_Mend n_ d home).bind k0 := by
  unfold jrnl_Mend jrnl_Mend_k; simp only [bind_cond, Option.bind_assoc, alt_bind, Option.bind_some, Option.bind_none, alt_inl, alt_inr]
@[reducible] def ref5_is_k {α : Type} (k : Bool → α) (d : TDisk) (i : Int) : α :=
  bif (!d.Down) then (bif (decide (i ≥ 0)) then k (decide (i < (d.Last.length : Int)))
    else k false)
  else k false
def ref5_is (d : TDisk) (i : Int) : Bool := ref5_is_k id d i
theorem ref5_is_bind {α : Type} (k : Bool → α) (d : TDisk) (i : Int) : ref5_is_k k d i = k (ref5_is d i) := by
  unfold ref5_is ref5_is_k; simp only [Bool.apply_cond k, id]
@[reducible] def ref5_Read_s0k {α : Type} (i : Int) (d : TDisk) (kc : (List UInt8 × Int) → Option α) (k0 : (List UInt8) → Option α) (s : List UInt8) (k : Int) : Option α :=
  bif (decide (k < (d.Wait.length : Int))) then (bif (inR k d.Wait.length) then (((d.Wait[k.toNat]?)).bind fun y_1 =>
      bif (y_1.At == i) then (bif (inR k d.Wait.length) then (((d.Wait[k.toNat]?)).bind fun y_2 =>
          kc (y_2.B, (wi64 (k + 1))))
        else none)
      else kc (s, (wi64 (k + 1))))
    else none)
  else k0 s
def ref5_Read_s0 (i : Int) (d : TDisk) (v_ : List UInt8 × Int) : Option ((List UInt8 × Int) ⊕ (List UInt8)) := ref5_Read_s0k i d (fun x => some (.inl x)) (fun x => some (.inr x)) v_.1 v_.2
def ref5_Read_l0 (i : Int) (d : TDisk) (s : List UInt8) (k : Int) : Option (List UInt8) := iter (ref5_Read_s0 i d) n_ (s, k)
theorem ref5_Read_s0_bind {α : Type} (i : Int) (d : TDisk) (kc : (List UInt8 × Int) → Option α) (k0 : (List UInt8) → Option α) (s : List UInt8) (k : Int) : ref5_Read_s0k i d kc k0 s k = (ref5_Read_s0 i d (s, k)).bind fun s_ => alt s_ kc k0 := by
  unfold ref5_Read_s0 ref5_Read_s0k; simp only [bind_cond, Option.bind_assoc, alt_bind, Option.bind_some, Option.bind_none, alt_inl, alt_inr]
@[reducible] def ref5_Read_k {α : Type} (k0 : (List UInt8 × Bool) → Option α) (d : TDisk) (i : Int) : Option α :=
  bif (!(ref5_is d i)) then k0 ([], false)
  else bif (inR i d.Last.length) then (((d.Last[i.toNat]?)).bind fun y_1 =>
      ((ref5_Read_l0 n_ i d y_1 0)).bind fun r_2 =>
      k0 (r_2, true))
    else none
def ref5_Read (d : TDisk) (i : Int) : Option (List UInt8 × Bool) := ref5_Read_k n_ (fun x => some x) d i
theorem ref5_Read_bind {α : Type} (k0 : (List UInt8 × Bool) → Option α) (d : TDisk) (i : Int) : ref5_Read_k n_ k0 d i = (ref5_Read n_ d i).bind k0 := by
  unfold ref5_Read ref5_Read_k; simp only [bind_cond, Option.bind_assoc, alt_bind, Option.bind_some, Option.bind_none, alt_inl, alt_inr]
@[reducible] def law6_begun_k {α : Type} (k0 : Bool → Option α) : Option α :=
  ((ref5_New n_ 9)).bind fun r_1 =>
  ((law6_sector n_ 3)).bind fun r_2 =>
  ((jrnl_Commit n_ r_1 4 [(TPut.mk 1 r_2)])).bind fun r_3 =>
  ((jrnl_Mend n_ r_3.1 4)).bind fun r_4 =>
  ((ref5_New n_ 9)).bind fun r_5 =>
  ((jrnl_Mend n_ r_5 4)).bind fun r_6 =>
  ((ref5_Read n_ r_4.1 1)).bind fun r_7 =>
  bif r_3.2 then (bif r_4.2 then (bif (!r_6.2) then (bif r_7.2 then (((law6_sector n_ 3)).bind fun r_8 =>
          k0 (r_7.1 == r_8))
        else k0 false)
      else k0 false)
    else k0 false)
  else k0 false
def law6_begun : Option Bool := law6_begun_k n_ (fun x => some x)
theorem law6_begun_bind {α : Type} (k0 : Bool → Option α) : law6_begun_k n_ k0 = (law6_begun n_).bind k0 := by
  unfold law6_begun law6_begun_k; simp only [bind_cond, Option.bind_assoc, alt_bind, Option.bind_some, Option.bind_none, alt_inl, alt_inr]
@[reducible] def law6_puts_s0k {α : Type} (l : List UInt8) (home : Int) (kc : (Int × List TPut) → Option α) (k0 : (List TPut) → Option α) (at_ : Int) (out : List TPut) : Option α :=
  bif (decide (at_ < home)) then (bif (decide (at_ < (l.length : Int))) then (bif (inR at_ l.length) then (((l[at_.toNat]?)).bind fun y_1 =>
        bif (decide ((i8 (b8 ((i8 y_1).tmod 3))) > 0)) then (bif (inR at_ l.length) then (((l[at_.toNat]?)).bind fun y_2 =>
            ((law6_sector n_ y_2)).bind fun r_3 =>
            bif (decide ((out.length + 1) ≤ lim)) then kc ((wi64 (at_ + 1)), (out ++ [(TPut.mk at_ r_3)]))
            else none)
          else none)
        else kc ((wi64 (at_ + 1)), out))
      else none)
    else k0 out)
  else k0 out
def law6_puts_s0 (l : List UInt8) (home : Int) (v_ : Int × List TPut) : Option ((Int × List TPut) ⊕ (List TPut)) := law6_puts_s0k n_ l home (fun x => some (.inl x)) (fun x => some (.inr x)) v_.1 v_.2
def law6_puts_l0 (l : List UInt8) (home : Int) (at_ : Int) (out : List TPut) : Option (List TPut) := iter (law6_puts_s0 n_ l home) n_ (at_, out)
theorem law6_puts_s0_bind {α : Type} (l : List UInt8) (home : Int) (kc : (Int × List TPut) → Option α) (k0 : (List TPut) → Option α) (at_ : Int) (out : List TPut) : law6_puts_s0k n_ l home kc k0 at_ out = (law6_puts_s0 n_ l home (at_, out)).bind fun s_ => alt s_ kc k0 := by
  unfold law6_puts_s0 law6_puts_s0k; simp only [bind_cond, Option.bind_assoc, alt_bind, Option.bind_some, Option.bind_none, alt_inl, alt_inr]
@[reducible] def law6_puts_k {α : Type} (k0 : (List TPut) → Option α) (l : List UInt8) (home : Int) : Option α :=
  ((law6_puts_l0 n_ l home 0 [])).bind fun r_1 =>
  k0 r_1
def law6_puts (l : List UInt8) (home : Int) : Option (List TPut) := law6_puts_k n_ (fun x => some x) l home
theorem law6_puts_bind {α : Type} (k0 : (List TPut) → Option α) (l : List UInt8) (home : Int) : law6_puts_k n_ k0 l home = (law6_puts n_ l home).bind k0 := by
  unfold law6_puts law6_puts_k; simp only [bind_cond, Option.bind_assoc, alt_bind, Option.bind_some, Option.bind_none, alt_inl, alt_inr]
@[reducible] def ref5_lasts_k {α : Type} (k0 : (List (List UInt8)) → Option α) (l : List (List UInt8)) (p : TPut) (n : Int) : Option α :=
  bif (decide (l.length ≤ lim)) then (bif (decide (p.At ≥ 0)) then (bif (decide (p.At < (l.length : Int))) then (bif (inR p.At l.length) then (((l[p.At.toNat]?)).bind fun y_1 =>
          bif (cutOk 0 (imin (imax n 0) (imin (p.B.length : Int) (y_1.length : Int))) p.B.length) then (bif (inR p.At l.length) then (((l[p.At.toNat]?)).bind fun y_2 =>
              bif (cutOk (imin (imax n 0) (imin (p.B.length : Int) (y_1.length : Int))) (y_2.length : Int) y_2.length) then (bif (decide (((cutL p.B 0 (imin (imax n 0) (imin (p.B.length : Int) (y_1.length : Int)))).length + (cutL y_2 (imin (imax n 0) (imin (p.B.length : Int) (y_1.length : Int))) (y_2.length : Int)).length) ≤ lim)) then (bif (inR p.At l.length) then (((l[p.At.toNat]?)).bind fun y_3 =>
                    k0 (l.set p.At.toNat ((cutL p.B 0 (imin (imax n 0) (imin (p.B.length : Int) (y_1.length : Int)))) ++ (cutL y_2 (imin (imax n 0) (imin (p.B.length : Int) (y_1.length : Int))) (y_2.length : Int)))))
                  else none)
                else none)
              else none)
            else none)
          else none)
        else none)
      else k0 l)
    else k0 l)
  else none
def ref5_lasts (l : List (List UInt8)) (p : TPut) (n : Int) : Option (List (List UInt8)) := ref5_lasts_k (fun x => some x) l p n
theorem ref5_lasts_bind {α : Type} (k0 : (List (List UInt8)) → Option α) (l : List (List UInt8)) (p : TPut) (n : Int) : ref5_lasts_k k0 l p n = (ref5_lasts l p n).bind k0 := by
  unfold ref5_lasts ref5_lasts_k; simp only [bind_cond, Option.bind_assoc, alt_bind, Option.bind_some, Option.bind_none, alt_inl, alt_inr]
@[reducible] def ref5_Crash_s0k {α : Type} (keep : List Int) (kc : (Int × TDisk × TDisk) → Option α) (k0 : (TDisk × TDisk) → Option α) (k : Int) (d : TDisk) (o1 : TDisk) : Option α :=
  bif (decide (k < (d.Wait.length : Int))) then (bif (decide (k < (keep.length : Int))) then (bif (inR k keep.length) then (((keep[k.toNat]?)).bind fun y_1 =>
        bif (inR k d.Wait.length) then (((d.Wait[k.toNat]?)).bind fun y_2 =>
          ((ref5_lasts d.Last y_2 (imin (imax y_1 0) 32))).bind fun r_3 =>
          kc ((wi64 (k + 1)), (TDisk.mk r_3 d.Wait d.Arm d.Down), (TDisk.mk [] [] o1.Arm o1.Down)))
        else none)
      else none)
    else bif (inR k d.Wait.length) then (((d.Wait[k.toNat]?)).bind fun y_4 =>
        ((ref5_lasts d.Last y_4 0)).bind fun r_5 =>
        kc ((wi64 (k + 1)), (TDisk.mk r_5 d.Wait d.Arm d.Down), (TDisk.mk [] [] o1.Arm o1.Down)))
      else none)
  else k0 (d, (TDisk.mk [] [] o1.Arm o1.Down))
def ref5_Crash_s0 (keep : List Int) (v_ : Int × TDisk × TDisk) : Option ((Int × TDisk × TDisk) ⊕ (TDisk × TDisk)) := ref5_Crash_s0k keep (fun x => some (.inl x)) (fun x => some (.inr x)) v_.1 v_.2.1 v_.2.2
def ref5_Crash_l0 (keep : List Int) (k : Int) (d : TDisk) (o1 : TDisk) : Option (TDisk × TDisk) := iter (ref5_Crash_s0 keep) n_ (k, d, o1)
theorem ref5_Crash_s0_bind {α : Type} (keep : List Int) (kc : (Int × TDisk × TDisk) → Option α) (k0 : (TDisk × TDisk) → Option α) (k : Int) (d : TDisk) (o1 : TDisk) : ref5_Crash_s0k keep kc k0 k d o1 = (ref5_Crash_s0 keep (k, d, o1)).bind fun s_ => alt s_ kc k0 := by
  unfold ref5_Crash_s0 ref5_Crash_s0k; simp only [bind_cond, Option.bind_assoc, alt_bind, Option.bind_some, Option.bind_none, alt_inl, alt_inr]
@[reducible] def ref5_Crash_k {α : Type} (k0 : TDisk → Option α) (d : TDisk) (keep : List Int) : Option α :=
  ((ref5_Crash_l0 n_ keep 0 d (TDisk.mk [] [] 0 false))).bind fun r_1 =>
  k0 (TDisk.mk r_1.1.Last [] 0 false)
def ref5_Crash (d : TDisk) (keep : List Int) : Option TDisk := ref5_Crash_k n_ (fun x => some x) d keep
theorem ref5_Crash_bind {α : Type} (k0 : TDisk → Option α) (d : TDisk) (keep : List Int) : ref5_Crash_k n_ k0 d keep = (ref5_Crash n_ d keep).bind k0 := by
  unfold ref5_Crash ref5_Crash_k; simp only [bind_cond, Option.bind_assoc, alt_bind, Option.bind_some, Option.bind_none, alt_inl, alt_inr]
@[reducible] def ref5_SameTexts_s0k {α : Type} (a : List (List UInt8)) (b : List (List UInt8)) (kc : Int → Option α) (k0 : Unit → Option α) (k1 : Unit → Option α) (i : Int) : Option α :=
  bif (decide (i < (a.length : Int))) then (bif (inR i a.length) then (((a[i.toNat]?)).bind fun y_1 =>
      bif (inR i b.length) then (((b[i.toNat]?)).bind fun y_2 =>
        bif (!(y_1 == y_2)) then k0 ()
        else kc (wi64 (i + 1)))
      else none)
    else none)
  else k1 ()
def ref5_SameTexts_s0 (a : List (List UInt8)) (b : List (List UInt8)) (v_ : Int) : Option (Int ⊕ (Unit ⊕ Unit)) := ref5_SameTexts_s0k a b (fun x => some (.inl x)) (fun x => some (.inr (.inl x))) (fun x => some (.inr (.inr x))) v_
def ref5_SameTexts_l0 (a : List (List UInt8)) (b : List (List UInt8)) (i : Int) : Option (Unit ⊕ Unit) := iter (ref5_SameTexts_s0 a b) n_ i
theorem ref5_SameTexts_s0_bind {α : Type} (a : List (List UInt8)) (b : List (List UInt8)) (kc : Int → Option α) (k0 : Unit → Option α) (k1 : Unit → Option α) (i : Int) : ref5_SameTexts_s0k a b kc k0 k1 i = (ref5_SameTexts_s0 a b i).bind fun s_ => alt s_ kc (fun s0_ => alt s0_ k0 k1) := by
  unfold ref5_SameTexts_s0 ref5_SameTexts_s0k; simp only [bind_cond, Option.bind_assoc, alt_bind, Option.bind_some, Option.bind_none, alt_inl, alt_inr]
@[reducible] def ref5_SameTexts_k {α : Type} (k0 : Bool → Option α) (a : List (List UInt8)) (b : List (List UInt8)) : Option α :=
  bif ((a.length : Int) != (b.length : Int)) then k0 false
  else ((ref5_SameTexts_l0 n_ a b 0)).bind fun r_1 =>
    alt r_1 (fun a_2 =>
      k0 false) (fun b_3 =>
      k0 true)
def ref5_SameTexts (a : List (List UInt8)) (b : List (List UInt8)) : Option Bool := ref5_SameTexts_k n_ (fun x => some x) a b
theorem ref5_SameTexts_bind {α : Type} (k0 : Bool → Option α) (a : List (List UInt8)) (b : List (List UInt8)) : ref5_SameTexts_k n_ k0 a b = (ref5_SameTexts n_ a b).bind k0 := by
  unfold ref5_SameTexts ref5_SameTexts_k; simp only [bind_cond, Option.bind_assoc, alt_bind, Option.bind_some, Option.bind_none, alt_inl, alt_inr]
@[reducible] def law6_JrnlWhole_s0k {α : Type} (arm : UInt8) (again : UInt8) (keep : List Int) (more : List Int) (o0 : List UInt8) (now : List UInt8) (d : TDisk) (kc : (Int × List (List UInt8)) → Option α) (k0 : (List (List UInt8)) → Option α) (i : Int) (old : List (List UInt8)) : Option α :=
  bif (decide (i < 8)) then (((ref5_Read n_ d i)).bind fun r_1 =>
    bif (decide ((old.length + 1) ≤ lim)) then kc ((wi64 (i + 1)), (old ++ [r_1.1]))
    else none)
  else k0 old
def law6_JrnlWhole_s0 (arm : UInt8) (again : UInt8) (keep : List Int) (more : List Int) (o0 : List UInt8) (now : List UInt8) (d : TDisk) (v_ : Int × List (List UInt8)) : Option ((Int × List (List UInt8)) ⊕ (List (List UInt8))) := law6_JrnlWhole_s0k n_ arm again keep more o0 now d (fun x => some (.inl x)) (fun x => some (.inr x)) v_.1 v_.2
def law6_JrnlWhole_l0 (arm : UInt8) (again : UInt8) (keep : List Int) (more : List Int) (o0 : List UInt8) (now : List UInt8) (d : TDisk) (i : Int) (old : List (List UInt8)) : Option (List (List UInt8)) := iter (law6_JrnlWhole_s0 n_ arm again keep more o0 now d) n_ (i, old)
theorem law6_JrnlWhole_s0_bind {α : Type} (arm : UInt8) (again : UInt8) (keep : List Int) (more : List Int) (o0 : List UInt8) (now : List UInt8) (d : TDisk) (kc : (Int × List (List UInt8)) → Option α) (k0 : (List (List UInt8)) → Option α) (i : Int) (old : List (List UInt8)) : law6_JrnlWhole_s0k n_ arm again keep more o0 now d kc k0 i old = (law6_JrnlWhole_s0 n_ arm again keep more o0 now d (i, old)).bind fun s_ => alt s_ kc k0 := by
  unfold law6_JrnlWhole_s0 law6_JrnlWhole_s0k; simp only [bind_cond, Option.bind_assoc, alt_bind, Option.bind_some, Option.bind_none, alt_inl, alt_inr]
@[reducible] def law6_JrnlWhole_s1k {α : Type} (arm : UInt8) (again : UInt8) (keep : List Int) (more : List Int) (p : List TPut) (o0 : List UInt8) (o1 : List UInt8) (d : TDisk) (old : List (List UInt8)) (kc : (Int × List (List UInt8)) → Option α) (k0 : (List (List UInt8)) → Option α) (i : Int) (whole : List (List UInt8)) : Option α :=
  bif (decide (i < (p.length : Int))) then (bif (inR i p.length) then (((p[i.toNat]?)).bind fun y_1 =>
      bif (inR i p.length) then (((p[i.toNat]?)).bind fun y_2 =>
        bif (inR y_1.At whole.length) then (((whole[y_1.At.toNat]?)).bind fun y_3 =>
          kc ((wi64 (i + 1)), (whole.set y_1.At.toNat y_2.B)))
        else none)
      else none)
    else none)
  else k0 whole
def law6_JrnlWhole_s1 (arm : UInt8) (again : UInt8) (keep : List Int) (more : List Int) (p : List TPut) (o0 : List UInt8) (o1 : List UInt8) (d : TDisk) (old : List (List UInt8)) (v_ : Int × List (List UInt8)) : Option ((Int × List (List UInt8)) ⊕ (List (List UInt8))) := law6_JrnlWhole_s1k arm again keep more p o0 o1 d old (fun x => some (.inl x)) (fun x => some (.inr x)) v_.1 v_.2
def law6_JrnlWhole_l1 (arm : UInt8) (again : UInt8) (keep : List Int) (more : List Int) (p : List TPut) (o0 : List UInt8) (o1 : List UInt8) (d : TDisk) (old : List (List UInt8)) (i : Int) (whole : List (List UInt8)) : Option (List (List UInt8)) := iter (law6_JrnlWhole_s1 arm again keep more p o0 o1 d old) n_ (i, whole)
theorem law6_JrnlWhole_s1_bind {α : Type} (arm : UInt8) (again : UInt8) (keep : List Int) (more : List Int) (p : List TPut) (o0 : List UInt8) (o1 : List UInt8) (d : TDisk) (old : List (List UInt8)) (kc : (Int × List (List UInt8)) → Option α) (k0 : (List (List UInt8)) → Option α) (i : Int) (whole : List (List UInt8)) : law6_JrnlWhole_s1k arm again keep more p o0 o1 d old kc k0 i whole = (law6_JrnlWhole_s1 arm again keep more p o0 o1 d old (i, whole)).bind fun s_ => alt s_ kc k0 := by
  unfold law6_JrnlWhole_s1 law6_JrnlWhole_s1k; simp only [bind_cond, Option.bind_assoc, alt_bind, Option.bind_some, Option.bind_none, alt_inl, alt_inr]
@[reducible] def law6_JrnlWhole_s2k {α : Type} (done : Bool) (o0 : List UInt8) (o1 : List UInt8) (o2 : TDisk) (o5 : TDisk) (o6 : TDisk) (z : TDisk) (old : List (List UInt8)) (whole : List (List UInt8)) (kc : (Int × List (List UInt8)) → Option α) (k0 : (List (List UInt8)) → Option α) (k1 : (List (List UInt8)) → Option α) (i : Int) (got : List (List UInt8)) : Option α :=
  bif (decide (i < 8)) then (((ref5_Read n_ z i)).bind fun r_1 =>
    bif (!r_1.2) then k0 got
    else bif (decide ((got.length + 1) ≤ lim)) then kc ((wi64 (i + 1)), (got ++ [r_1.1]))
      else none)
  else k1 got
def law6_JrnlWhole_s2 (done : Bool) (o0 : List UInt8) (o1 : List UInt8) (o2 : TDisk) (o5 : TDisk) (o6 : TDisk) (z : TDisk) (old : List (List UInt8)) (whole : List (List UInt8)) (v_ : Int × List (List UInt8)) : Option ((Int × List (List UInt8)) ⊕ ((List (List UInt8)) ⊕ (List (List UInt8)))) := law6_JrnlWhole_s2k n_ done o0 o1 o2 o5 o6 z old whole (fun x => some (.inl x)) (fun x => some (.inr (.inl x))) (fun x => some (.inr (.inr x))) v_.1 v_.2
def law6_JrnlWhole_l2 (done : Bool) (o0 : List UInt8) (o1 : List UInt8) (o2 : TDisk) (o5 : TDisk) (o6 : TDisk) (z : TDisk) (old : List (List UInt8)) (whole : List (List UInt8)) (i : Int) (got : List (List UInt8)) : Option ((List (List UInt8)) ⊕ (List (List UInt8))) := iter (law6_JrnlWhole_s2 n_ done o0 o1 o2 o5 o6 z old whole) n_ (i, got)
theorem law6_JrnlWhole_s2_bind {α : Type} (done : Bool) (o0 : List UInt8) (o1 : List UInt8) (o2 : TDisk) (o5 : TDisk) (o6 : TDisk) (z : TDisk) (old : List (List UInt8)) (whole : List (List UInt8)) (kc : (Int × List (List UInt8)) → Option α) (k0 : (List (List UInt8)) → Option α) (k1 : (List (List UInt8)) → Option α) (i : Int) (got : List (List UInt8)) : law6_JrnlWhole_s2k n_ done o0 o1 o2 o5 o6 z old whole kc k0 k1 i got = (law6_JrnlWhole_s2 n_ done o0 o1 o2 o5 o6 z old whole (i, got)).bind fun s_ => alt s_ kc (fun s0_ => alt s0_ k0 k1) := by
  unfold law6_JrnlWhole_s2 law6_JrnlWhole_s2k; simp only [bind_cond, Option.bind_assoc, alt_bind, Option.bind_some, Option.bind_none, alt_inl, alt_inr]
@[reducible] def law6_JrnlWhole_k {α : Type} (k0 : Bool → Option α) (was : List UInt8) (now : List UInt8) (arm : UInt8) (again : UInt8) (keep : List Int) (more : List Int) : Option α :=
  ((law6_begun n_)).bind fun r_1 =>
  bif (!r_1) then k0 false
  else bif (decide ((keep.length : Int) > 20)) then k0 true
    else bif (decide ((more.length : Int) > 20)) then k0 true
      else ((ref5_New n_ 17)).bind fun r_2 =>
        bif (cutOk 0 8 was.length) then (((law6_puts n_ (cutL was 0 8) 8)).bind fun r_3 =>
          ((jrnl_Commit n_ r_2 8 r_3)).bind fun r_4 =>
          bif (!r_4.2) then k0 false
          else ((law6_JrnlWhole_l0 n_ arm again keep more was now r_4.1 0 [])).bind fun r_5 =>
            bif (decide (r_5.length ≤ lim)) then (bif (cutOk 0 8 now.length) then (((law6_puts n_ (cutL now 0 8) 8)).bind fun r_6 =>
                ((law6_JrnlWhole_l1 n_ arm again keep more r_6 was now r_4.1 r_5 0 r_5)).bind fun r_7 =>
                ((jrnl_Commit n_ (TDisk.mk r_4.1.Last r_4.1.Wait (wi64 (i8 (b8 ((i8 arm).tmod 30)))) r_4.1.Down) 8 r_6)).bind fun r_8 =>
                ((ref5_Crash n_ r_8.1 keep)).bind fun r_9 =>
                ((jrnl_Mend n_ (TDisk.mk r_9.Last r_9.Wait (wi64 (i8 (b8 ((i8 again).tmod 12)))) r_9.Down) 8)).bind fun r_10 =>
                ((ref5_Crash n_ r_10.1 more)).bind fun r_11 =>
                ((jrnl_Mend n_ r_11 8)).bind fun r_12 =>
                ((law6_JrnlWhole_l2 n_ r_8.2 was now (TDisk.mk r_4.1.Last r_4.1.Wait (wi64 (i8 (b8 ((i8 arm).tmod 30)))) r_4.1.Down) (TDisk.mk r_9.Last r_9.Wait (wi64 (i8 (b8 ((i8 again).tmod 12)))) r_9.Down) r_11 r_12.1 r_5 r_7 0 [])).bind fun r_13 =>
                alt r_13 (fun a_14 =>
                  k0 false) (fun b_15 =>
                  ((ref5_SameTexts n_ b_15 r_7)).bind fun r_16 =>
                  bif r_16 then k0 true
                  else bif (!r_8.2) then (((ref5_SameTexts n_ b_15 r_5)).bind fun r_17 =>
                      k0 r_17)
                    else k0 false))
              else none)
            else none)
        else none
def law6_JrnlWhole (was : List UInt8) (now : List UInt8) (arm : UInt8) (again : UInt8) (keep : List Int) (more : List Int) : Option Bool := law6_JrnlWhole_k n_ (fun x => some x) was now arm again keep more
theorem law6_JrnlWhole_bind {α : Type} (k0 : Bool → Option α) (was : List UInt8) (now : List UInt8) (arm : UInt8) (again : UInt8) (keep : List Int) (more : List Int) : law6_JrnlWhole_k n_ k0 was now arm again keep more = (law6_JrnlWhole n_ was now arm again keep more).bind k0 := by
  unfold law6_JrnlWhole law6_JrnlWhole_k; simp only [bind_cond, Option.bind_assoc, alt_bind, Option.bind_some, Option.bind_none, alt_inl, alt_inr]
@[reducible] def law6_JrnlHead_k {α : Type} (k0 : Bool → Option α) (l : List UInt8) (n : UInt8) : Option α :=
  ((law6_begun n_)).bind fun r_1 =>
  bif (!r_1) then k0 false
  else bif (cutOk 0 8 l.length) then (((law6_puts n_ (cutL l 0 8) 8)).bind fun r_2 =>
      bif ((r_2.length : Int) == 0) then k0 true
      else ((ref5_New n_ 17)).bind fun r_3 =>
        ((jrnl_Commit n_ (TDisk.mk r_3.Last r_3.Wait (wi64 (2 + (r_2.length : Int))) r_3.Down) 8 r_2)).bind fun r_4 =>
        bif r_4.2 then k0 false
        else bif (!r_4.1.Down) then k0 false
          else ((ref5_Crash n_ r_4.1 [(wi64 (i8 (b8 ((i8 n).tmod 40))))])).bind fun r_5 =>
            ((jrnl_Mend n_ r_5 8)).bind fun r_6 =>
            bif (inR 0 r_2.length) then (((r_2[0]?)).bind fun y_7 =>
              ((ref5_Read n_ r_6.1 y_7.At)).bind fun r_8 =>
              bif (!r_8.2) then k0 false
              else bif (!(r_6.2 == (decide ((i8 (b8 ((i8 n).tmod 40))) ≥ 32)))) then k0 false
                else bif (inR 0 r_2.length) then (((r_2[0]?)).bind fun y_9 =>
                    bif (r_6.2 == (r_8.1 == y_9.B)) then k0 true
                    else bif (r_8.1 == [0, 0, 0, 0, 0, 0, 0, 0, 0, 0, 0, 0, 0, 0, 0, 0, 0, 0, 0, 0, 0, 0, 0, 0, 0, 0, 0, 0, 0, 0, 0, 0]) then (bif (inR 0 r_2.length) then (((r_2[0]?)).bind fun y_10 =>
                          k0 (r_8.1 == y_10.B))
                        else none)
                      else k0 false)
                  else none)
            else none)
    else none
def law6_JrnlHead (l : List UInt8) (n : UInt8) : Option Bool := law6_JrnlHead_k n_ (fun x => some x) l n
theorem law6_JrnlHead_bind {α : Type} (k0 : Bool → Option α) (l : List UInt8) (n : UInt8) : law6_JrnlHead_k n_ k0 l n = (law6_JrnlHead n_ l n).bind k0 := by
  unfold law6_JrnlHead law6_JrnlHead_k; simp only [bind_cond, Option.bind_assoc, alt_bind, Option.bind_some, Option.bind_none, alt_inl, alt_inr]
@[reducible] def ref5_SamePuts_s0k {α : Type} (a : List TPut) (b : List TPut) (kc : Int → Option α) (k0 : Unit → Option α) (k1 : Unit → Option α) (i : Int) : Option α :=
  bif (decide (i < (a.length : Int))) then (bif (inR i a.length) then (((a[i.toNat]?)).bind fun y_1 =>
      bif (inR i b.length) then (((b[i.toNat]?)).bind fun y_2 =>
        bif (!(TPut.eqb y_1 y_2)) then k0 ()
        else kc (wi64 (i + 1)))
      else none)
    else none)
  else k1 ()
def ref5_SamePuts_s0 (a : List TPut) (b : List TPut) (v_ : Int) : Option (Int ⊕ (Unit ⊕ Unit)) := ref5_SamePuts_s0k a b (fun x => some (.inl x)) (fun x => some (.inr (.inl x))) (fun x => some (.inr (.inr x))) v_
def ref5_SamePuts_l0 (a : List TPut) (b : List TPut) (i : Int) : Option (Unit ⊕ Unit) := iter (ref5_SamePuts_s0 a b) n_ i
@[reducible] def ref5_SamePuts_k {α : Type} (k0 : Bool → Option α) (a : List TPut) (b : List TPut) : Option α :=
  bif ((a.length : Int) != (b.length : Int)) then k0 false
  else ((ref5_SamePuts_l0 n_ a b 0)).bind fun r_1 =>
    alt r_1 (fun a_2 =>
      k0 false) (fun b_3 =>
      k0 true)
def ref5_SamePuts (a : List TPut) (b : List TPut) : Option Bool := ref5_SamePuts_k n_ (fun x => some x) a b
@[reducible] def ref5_Same_k {α : Type} (k0 : Bool → Option α) (a : TDisk) (b : TDisk) : Option α :=
  ((ref5_SameTexts n_ a.Last b.Last)).bind fun r_1 =>
  bif r_1 then (((ref5_SamePuts n_ a.Wait b.Wait)).bind fun r_2 =>
    bif r_2 then (bif (a.Arm == b.Arm) then k0 (a.Down == b.Down)
      else k0 false)
    else k0 false)
  else k0 false
def ref5_Same (a : TDisk) (b : TDisk) : Option Bool := ref5_Same_k n_ (fun x => some x) a b
@[reducible] def law6_JrnlForms_s0k {α : Type} (a : List UInt8) (bad : List (List TPut)) (d : TDisk) (kc : Int → Option α) (k0 : TDisk → Option α) (k1 : Unit → Option α) (i : Int) : Option α :=
  bif (decide (i < (bad.length : Int))) then (bif (inR i bad.length) then (((bad[i.toNat]?)).bind fun y_1 =>
      ((jrnl_Commit n_ d 3 y_1)).bind fun r_2 =>
      bif r_2.2 then k0 r_2.1
      else ((ref5_Same n_ r_2.1 d)).bind fun r_3 =>
        bif (!r_3) then k0 r_2.1
        else kc (wi64 (i + 1)))
    else none)
  else k1 ()
def law6_JrnlForms_s0 (a : List UInt8) (bad : List (List TPut)) (d : TDisk) (v_ : Int) : Option (Int ⊕ (TDisk ⊕ Unit)) := law6_JrnlForms_s0k n_ a bad d (fun x => some (.inl x)) (fun x => some (.inr (.inl x))) (fun x => some (.inr (.inr x))) v_
def law6_JrnlForms_l0 (a : List UInt8) (bad : List (List TPut)) (d : TDisk) (i : Int) : Option (TDisk ⊕ Unit) := iter (law6_JrnlForms_s0 n_ a bad d) n_ i
@[reducible] def law6_JrnlMany_s0k {α : Type} (l : List (List UInt8)) (d : TDisk) (kc : (Int × List (List UInt8)) → Option α) (k0 : (List (List UInt8)) → Option α) (i : Int) (want : List (List UInt8)) : Option α :=
  bif (decide (i < 8)) then (bif (inR i 8) then (((want[i.toNat]?)).bind fun y_1 =>
      kc ((wi64 (i + 1)), (want.set i.toNat [0, 0, 0, 0, 0, 0, 0, 0, 0, 0, 0, 0, 0, 0, 0, 0, 0, 0, 0, 0, 0, 0, 0, 0, 0, 0, 0, 0, 0, 0, 0, 0])))
    else none)
  else k0 want
def law6_JrnlMany_s0 (l : List (List UInt8)) (d : TDisk) (v_ : Int × List (List UInt8)) : Option ((Int × List (List UInt8)) ⊕ (List (List UInt8))) := law6_JrnlMany_s0k l d (fun x => some (.inl x)) (fun x => some (.inr x)) v_.1 v_.2
def law6_JrnlMany_l0 (l : List (List UInt8)) (d : TDisk) (i : Int) (want : List (List UInt8)) : Option (List (List UInt8)) := iter (law6_JrnlMany_s0 l d) n_ (i, want)
theorem law6_JrnlMany_s0_bind {α : Type} (l : List (List UInt8)) (d : TDisk) (kc : (Int × List (List UInt8)) → Option α) (k0 : (List (List UInt8)) → Option α) (i : Int) (want : List (List UInt8)) : law6_JrnlMany_s0k l d kc k0 i want = (law6_JrnlMany_s0 l d (i, want)).bind fun s_ => alt s_ kc k0 := by
  unfold law6_JrnlMany_s0 law6_JrnlMany_s0k; simp only [bind_cond, Option.bind_assoc, alt_bind, Option.bind_some, Option.bind_none, alt_inl, alt_inr]
@[reducible] def law6_JrnlMany_s1k {α : Type} (l : List (List UInt8)) (i : Int) (p : List TPut) (o0 : List (List UInt8)) (d : TDisk) (x : TDisk) (kc : (Int × List (List UInt8)) → Option α) (k0 : (List (List UInt8)) → Option α) (k : Int) (want : List (List UInt8)) : Option α :=
  bif (decide (k < (p.length : Int))) then (bif (inR k p.length) then (((p[k.toNat]?)).bind fun y_1 =>
      bif (inR k p.length) then (((p[k.toNat]?)).bind fun y_2 =>
        bif (inR y_1.At 8) then (((want[y_1.At.toNat]?)).bind fun y_3 =>
          kc ((wi64 (k + 1)), (want.set y_1.At.toNat y_2.B)))
        else none)
      else none)
    else none)
  else k0 want
def law6_JrnlMany_s1 (l : List (List UInt8)) (i : Int) (p : List TPut) (o0 : List (List UInt8)) (d : TDisk) (x : TDisk) (v_ : Int × List (List UInt8)) : Option ((Int × List (List UInt8)) ⊕ (List (List UInt8))) := law6_JrnlMany_s1k l i p o0 d x (fun x => some (.inl x)) (fun x => some (.inr x)) v_.1 v_.2
def law6_JrnlMany_l1 (l : List (List UInt8)) (i : Int) (p : List TPut) (o0 : List (List UInt8)) (d : TDisk) (x : TDisk) (k : Int) (want : List (List UInt8)) : Option (List (List UInt8)) := iter (law6_JrnlMany_s1 l i p o0 d x) n_ (k, want)
theorem law6_JrnlMany_s1_bind {α : Type} (l : List (List UInt8)) (i : Int) (p : List TPut) (o0 : List (List UInt8)) (d : TDisk) (x : TDisk) (kc : (Int × List (List UInt8)) → Option α) (k0 : (List (List UInt8)) → Option α) (k : Int) (want : List (List UInt8)) : law6_JrnlMany_s1k l i p o0 d x kc k0 k want = (law6_JrnlMany_s1 l i p o0 d x (k, want)).bind fun s_ => alt s_ kc k0 := by
  unfold law6_JrnlMany_s1 law6_JrnlMany_s1k; simp only [bind_cond, Option.bind_assoc, alt_bind, Option.bind_some, Option.bind_none, alt_inl, alt_inr]
@[reducible] def law6_JrnlMany_s2k {α : Type} (l : List (List UInt8)) (i : Int) (o0 : List (List UInt8)) (d : TDisk) (want : List (List UInt8)) (x : TDisk) (y : TDisk) (kc : Int → Option α) (k0 : Unit → Option α) (k1 : Unit → Option α) (k : Int) : Option α :=
  bif (decide (k < 8)) then (((ref5_Read n_ x k)).bind fun r_1 =>
    ((ref5_Read n_ y k)).bind fun r_2 =>
    bif (!r_1.2) then k0 ()
    else bif (!r_2.2) then k0 ()
      else bif (inR k 8) then (((want[k.toNat]?)).bind fun y_3 =>
          bif (!(r_1.1 == y_3)) then k0 ()
          else bif (inR k 8) then (((want[k.toNat]?)).bind fun y_4 =>
              bif (!(r_2.1 == y_4)) then k0 ()
              else kc (wi64 (k + 1)))
            else none)
        else none)
  else k1 ()
def law6_JrnlMany_s2 (l : List (List UInt8)) (i : Int) (o0 : List (List UInt8)) (d : TDisk) (want : List (List UInt8)) (x : TDisk) (y : TDisk) (v_ : Int) : Option (Int ⊕ (Unit ⊕ Unit)) := law6_JrnlMany_s2k n_ l i o0 d want x y (fun x => some (.inl x)) (fun x => some (.inr (.inl x))) (fun x => some (.inr (.inr x))) v_
def law6_JrnlMany_l2 (l : List (List UInt8)) (i : Int) (o0 : List (List UInt8)) (d : TDisk) (want : List (List UInt8)) (x : TDisk) (y : TDisk) (k : Int) : Option (Unit ⊕ Unit) := iter (law6_JrnlMany_s2 n_ l i o0 d want x y) n_ k
theorem law6_JrnlMany_s2_bind {α : Type} (l : List (List UInt8)) (i : Int) (o0 : List (List UInt8)) (d : TDisk) (want : List (List UInt8)) (x : TDisk) (y : TDisk) (kc : Int → Option α) (k0 : Unit → Option α) (k1 : Unit → Option α) (k : Int) : law6_JrnlMany_s2k n_ l i o0 d want x y kc k0 k1 k = (law6_JrnlMany_s2 n_ l i o0 d want x y k).bind fun s_ => alt s_ kc (fun s0_ => alt s0_ k0 k1) := by
  unfold law6_JrnlMany_s2 law6_JrnlMany_s2k; simp only [bind_cond, Option.bind_assoc, alt_bind, Option.bind_some, Option.bind_none, alt_inl, alt_inr]
@[reducible] def law6_JrnlMany_s3k {α : Type} (l : List (List UInt8)) (o0 : List (List UInt8)) (kc : (Int × TDisk × List (List UInt8)) → Option α) (k0 : (TDisk × List (List UInt8) × TDisk) → Option α) (k1 : (TDisk × List (List UInt8) × TDisk × TDisk) → Option α) (k2 : (TDisk × List (List UInt8)) → Option α) (i : Int) (d : TDisk) (want : List (List UInt8)) : Option α :=
  bif (decide (i < 5)) then (bif (inR i 5) then (((l[i.toNat]?)).bind fun y_1 =>
      bif (cutOk 0 8 y_1.length) then (((law6_puts n_ (cutL y_1 0 8) 8)).bind fun r_2 =>
        ((jrnl_Commit n_ d 8 r_2)).bind fun r_3 =>
        bif (!r_3.2) then k0 (d, want, r_3.1)
        else ((law6_JrnlMany_l1 n_ l i r_2 o0 d r_3.1 0 want)).bind fun r_4 =>
          ((jrnl_Mend n_ r_3.1 8)).bind fun r_5 =>
          ((law6_JrnlMany_l2 n_ l i o0 d r_4 r_3.1 r_5.1 0)).bind fun r_6 =>
          alt r_6 (fun a_7 =>
            k1 (d, r_4, r_3.1, r_5.1)) (fun b_8 =>
            kc ((wi64 (i + 1)), r_3.1, r_4)))
      else none)
    else none)
  else k2 (d, want)
def law6_JrnlMany_s3 (l : List (List UInt8)) (o0 : List (List UInt8)) (v_ : Int × TDisk × List (List UInt8)) : Option ((Int × TDisk × List (List UInt8)) ⊕ ((TDisk × List (List UInt8) × TDisk) ⊕ ((TDisk × List (List UInt8) × TDisk × TDisk) ⊕ (TDisk × List (List UInt8))))) := law6_JrnlMany_s3k n_ l o0 (fun x => some (.inl x)) (fun x => some (.inr (.inl x))) (fun x => some (.inr (.inr (.inl x)))) (fun x => some (.inr (.inr (.inr x)))) v_.1 v_.2.1 v_.2.2
def law6_JrnlMany_l3 (l : List (List UInt8)) (o0 : List (List UInt8)) (i : Int) (d : TDisk) (want : List (List UInt8)) : Option ((TDisk × List (List UInt8) × TDisk) ⊕ ((TDisk × List (List UInt8) × TDisk × TDisk) ⊕ (TDisk × List (List UInt8)))) := iter (law6_JrnlMany_s3 n_ l o0) n_ (i, d, want)
theorem law6_JrnlMany_s3_bind {α : Type} (l : List (List UInt8)) (o0 : List (List UInt8)) (kc : (Int × TDisk × List (List UInt8)) → Option α) (k0 : (TDisk × List (List UInt8) × TDisk) → Option α) (k1 : (TDisk × List (List UInt8) × TDisk × TDisk) → Option α) (k2 : (TDisk × List (List UInt8)) → Option α) (i : Int) (d : TDisk) (want : List (List UInt8)) : law6_JrnlMany_s3k n_ l o0 kc k0 k1 k2 i d want = (law6_JrnlMany_s3 n_ l o0 (i, d, want)).bind fun s_ => alt s_ kc (fun s0_ => alt s0_ k0 (fun s1_ => alt s1_ k1 k2)) := by
  unfold law6_JrnlMany_s3 law6_JrnlMany_s3k; simp only [bind_cond, Option.bind_assoc, alt_bind, Option.bind_some, Option.bind_none, alt_inl, alt_inr]
@[reducible] def law6_JrnlMany_k {α : Type} (k0 : Bool → Option α) (l : List (List UInt8)) : Option α :=
  ((law6_begun n_)).bind fun r_1 =>
  bif (!r_1) then k0 false
  else ((ref5_New n_ 17)).bind fun r_2 =>
    ((law6_JrnlMany_l0 n_ l r_2 0 [[], [], [], [], [], [], [], []])).bind fun r_3 =>
    ((law6_JrnlMany_l3 n_ l l 0 r_2 r_3)).bind fun r_4 =>
    alt r_4 (fun a_5 =>
      k0 false) (fun b_6 =>
      alt b_6 (fun a_7 =>
        k0 false) (fun b_8 =>
        k0 ((b_8.1.Wait.length : Int) == 0)))
def law6_JrnlMany (l : List (List UInt8)) : Option Bool := law6_JrnlMany_k n_ (fun x => some x) l
theorem law6_JrnlMany_bind {α : Type} (k0 : Bool → Option α) (l : List (List UInt8)) : law6_JrnlMany_k n_ k0 l = (law6_JrnlMany n_ l).bind k0 := by
  unfold law6_JrnlMany law6_JrnlMany_k; simp only [bind_cond, Option.bind_assoc, alt_bind, Option.bind_some, Option.bind_none, alt_inl, alt_inr]
end
end Go.Proofs.YtddhfdbfackahaaDoor.N
