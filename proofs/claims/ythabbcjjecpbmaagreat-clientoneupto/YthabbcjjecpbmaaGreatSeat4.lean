/- Plain words for this seat (2). Plain words for this seat (3). Plain words for this seat (4). Plain words for this seat (5). Plain words for this seat (6). Plain words for this seat (7). Plain words for this seat (8). Plain words for this seat (9). Plain words for this seat (30). Plain words for this seat (31). Plain words for this seat (32). -/
import Derived.Test.YthabbcjjecpbmaaGreatSeat3
set_option linter.unusedVariables false
set_option linter.unusedSimpArgs false
namespace Go.Proofs.YthabbcjjecpbmaaGreat.N
open Go
def rng (lo hi v : Int) : Bool := decide (lo ≤ v) && decide (v ≤ hi)
theorem rng_iff {lo hi v : Int} : rng lo hi v = true ↔ lo ≤ v ∧ v ≤ hi := by simp [rng]
theorem msg_from_eq (lo hi v : Int) : msg_from lo hi v = rng lo hi v := by
 unfold msg_from msg_from_t rng
 try simp only [get_ite, get_opt, get_ret, get_fail, get_altT, val_ite, val_ret]
 cases decide (lo ≤ v) <;> rfl
theorem ref13_num_eq (n least : Int) : ref13_num n least = rng least 1073741824 n := by
 unfold ref13_num ref13_num_t rng
 try simp only [get_ite, get_opt, get_ret, get_fail, get_altT, val_ite, val_ret]
 simp only [ge_iff_le]
 cases decide (least ≤ n) <;> rfl
def wantW (a : TAsk) : Bool := a.Kind == 3 || a.Kind == 4
def want (a : TAsk) : TAsk :=
 bif a.Kind == 1 then ⟨a.Kind, a.From, a.Epoch, a.Seq, a.Name, 0, 0, []⟩ else
 bif a.Kind == 2 then ⟨a.Kind, a.From, a.Epoch, a.Seq, [], a.File, a.Mode, []⟩ else
 bif wantW a then ⟨a.Kind, a.From, a.Epoch, a.Seq, [], a.File, 0, a.Writes⟩ else ⟨a.Kind, a.From, a.Epoch, a.Seq, [], a.File, 0, []⟩
def wantOk (a : TAsk) : Bool :=
 bif a.Kind == 1 then mayName a.Name else
 bif a.Kind == 2 then rng 1 6 a.File && rng 1 2 a.Mode else
 bif wantW a then decide ((a.Writes.length : Int) ≤ 5) && ((decide ((a.Writes.length : Int) > 0) || a.Kind == 4) && (rng 1 6 a.File && a.Writes.all file_May)) else rng 1 6 a.File
def mayAsk (a : TAsk) : Bool := rng 1 5 a.Kind && (rng 1 3 a.From && (rng 0 1073741824 a.Epoch && (rng 1 1073741824 a.Seq && (wantOk a && sameAsk a (want a)))))
theorem sameAsk_comm (a b : TAsk) : sameAsk a b = sameAsk b a := by
 cases h : sameAsk b a with
 | true => exact (sameAsk_iff _ _).2 ((sameAsk_iff _ _).1 h).symm
 | false =>
  cases h2 : sameAsk a b with
  | false => rfl
  | true => rw [((sameAsk_iff _ _).1 h2).symm, sameAsk_refl] at h; cases h
theorem ref13_loop_ok (a x : TAsk) (ok : Bool) (h : a.Writes.length < 4294967296) : ref13_MayAsk_l0 fuel a x ok 0 = some (ok && a.Writes.all file_May) := by
 have hr : ∀ (l : List TWrite) (ok : Bool), runL (S := Bool) (X := Bool) (fun w ok => some (.inl (bif ok then file_May w else false))) (fun ok => ok) l ok = some (ok && l.all file_May) := by
  intro l
  induction l with
  | nil => intro ok; cases ok <;> rfl
  | cons w r ih =>
   intro ok
   rw [runL, List.all_cons]
   simp only [some_bind, alt_inl]
   rw [ih]
   cases ok <;> rfl
 unfold ref13_MayAsk_l0
 rw [← hr]
 refine iter_list0 (xs := a.Writes) (fun i (ok : Bool) => (ok, (i : Int))) _ _ (fun i ok w hw => ?_) (fun ok => ?_) ok (fuel_gt h)
 ·have hi := at_of hw
  simp only [ref13_MayAsk_s0, ref13_MayAsk_s0t, get_ite, get_opt, get_ret, get_fail, get_altT, val_ite, val_ret, lt_dec hi, inR_nat hi, Int.toNat_natCast, hw, cond_true, some_bind, wi64_succ (Nat.lt_trans hi h), ref7_MayWrite_eq]
  cases ok <;> rfl
 ·simp only [ref13_MayAsk_s0, ref13_MayAsk_s0t, get_ite, get_opt, get_ret, get_fail, get_altT, val_ite, val_ret, ge_dec, cond_false]
theorem ref13_MayAsk_ok (a : TAsk) (hn : a.Name.length < 4294967296) (hw : a.Writes.length < 4294967296) : ref13_MayAsk fuel a = some (mayAsk a) := by
 have s1 : ∀ (k f e s : Int) (nm : List UInt8) (fl m : Int) (b : TAsk), ref13_SameAsk fuel (TAsk.mk k f e s nm fl m []) b = some (sameAsk b (TAsk.mk k f e s nm fl m [])) := fun k f e s nm fl m b => by rw [ref13_SameAsk_ok _ _ (by simp), sameAsk_comm]
 have s2 : ∀ (k f e s : Int) (nm : List UInt8) (fl m : Int) (b : TAsk), ref13_SameAsk fuel (TAsk.mk k f e s nm fl m a.Writes) b = some (sameAsk b (TAsk.mk k f e s nm fl m a.Writes)) := fun k f e s nm fl m b => by rw [ref13_SameAsk_ok (TAsk.mk k f e s nm fl m a.Writes) b hw, sameAsk_comm]
 unfold ref13_MayAsk ref13_MayAsk_t
 try simp only [get_ite, get_opt, get_ret, get_fail, get_altT, val_ite, val_ret]
 rw [ref7_MayName_ok _ hn]
 simp only [s1, s2, ref13_loop_ok _ _ _ hw, ref13_num_eq, some_bind]
 unfold mayAsk want wantOk wantW
 by_cases k0 : 1 ≤ a.Kind ∧ a.Kind ≤ 5
 ·obtain ⟨k1, k2⟩ := k0
  rw [decide_eq_false (show ¬ a.Kind < 1 by omega), decide_eq_false (show ¬ a.Kind > 5 by omega), rng_iff.2 ⟨k1, k2⟩]
  by_cases f0 : 1 ≤ a.From ∧ a.From ≤ 3
  ·obtain ⟨f1, f2⟩ := f0
   rw [decide_eq_false (show ¬ a.From < 1 by omega), decide_eq_false (show ¬ a.From > 3 by omega), rng_iff.2 ⟨f1, f2⟩]
   cases rng 0 1073741824 a.Epoch <;> cases rng 1 1073741824 a.Seq <;> simp only [Bool.true_and, Bool.false_and, Bool.not_true, Bool.not_false, cond_true, cond_false]
   have hm : rng 1 2 a.Mode = (a.Mode == 1 || a.Mode == 2) := by
    rw [Bool.eq_iff_iff, rng_iff]
    simp
    omega
   have hf : rng 1 6 a.File = (decide (a.File ≥ 1) && decide (a.File ≤ 6)) := rfl
   rw [hm, hf]
   have hk : a.Kind = 1 ∨ a.Kind = 2 ∨ a.Kind = 3 ∨ a.Kind = 4 ∨ a.Kind = 5 := by omega
   rcases hk with hk | hk | hk | hk | hk <;> rw [hk] <;> simp only [Int.reduceBEq, cond_true, cond_false, Bool.or_true, Bool.or_false, Bool.true_or, Bool.false_or, Bool.and_true, Bool.true_and, Bool.and_false, Bool.false_and]
   ·cases mayName a.Name <;> rfl
   ·cases decide (a.File ≥ 1) <;> cases decide (a.File ≤ 6) <;> cases a.Mode == 1 <;> cases a.Mode == 2 <;> rfl
   ·cases decide (a.File ≥ 1) <;> cases decide (a.File ≤ 6) <;> cases decide ((a.Writes.length : Int) ≤ 5) <;> cases decide ((a.Writes.length : Int) > 0) <;> cases a.Writes.all file_May <;> rfl
   ·cases decide (a.File ≥ 1) <;> cases decide (a.File ≤ 6) <;> cases decide ((a.Writes.length : Int) ≤ 5) <;> cases decide ((a.Writes.length : Int) > 0) <;> cases a.Writes.all file_May <;> rfl
   ·cases decide (a.File ≥ 1) <;> cases decide (a.File ≤ 6) <;> rfl
  ·have hf : rng 1 3 a.From = false := by
    cases h : rng 1 3 a.From with
    | false => rfl
    | true => exact absurd (rng_iff.1 h) f0
   rw [hf]
   by_cases f1 : a.From < 1
   ·rw [decide_eq_true f1]; rfl
   ·rw [decide_eq_false f1, decide_eq_true (show a.From > 3 by omega)]; rfl
 ·have hk : rng 1 5 a.Kind = false := by
   cases h : rng 1 5 a.Kind with
   | false => rfl
   | true => exact absurd (rng_iff.1 h) k0
  rw [hk]
  by_cases k1 : a.Kind < 1
  ·rw [decide_eq_true k1]; rfl
  ·rw [decide_eq_false k1, decide_eq_true (show a.Kind > 5 by omega)]; rfl
theorem tell_eqb (x y : TTell) : TTell.eqb x y = true ↔ x = y := by
 cases x; cases y
 simp [TTell.eqb]
theorem MayTell_eq (t : TTell) : msg_MayTell t = ref13_MayTell t := by
 unfold msg_MayTell msg_MayTell_t ref13_MayTell ref13_MayTell_t
 try simp only [get_ite, get_opt, get_ret, get_fail, get_altT, val_ite, val_ret]
 simp only [msg_from_eq, ref13_num_eq, id]
 by_cases k0 : 1 ≤ t.Kind ∧ t.Kind ≤ 3
 ·obtain ⟨k1, k2⟩ := k0
  rw [decide_eq_false (show ¬ t.Kind < 1 by omega), decide_eq_false (show ¬ t.Kind > 3 by omega), rng_iff.2 ⟨k1, k2⟩]
  by_cases f0 : 1 ≤ t.To ∧ t.To ≤ 3
  ·obtain ⟨f1, f2⟩ := f0
   rw [decide_eq_false (show ¬ t.To < 1 by omega), decide_eq_false (show ¬ t.To > 3 by omega), rng_iff.2 ⟨f1, f2⟩]
   have h1 : rng 1 6 t.File = (decide (t.File ≥ 1) && decide (t.File ≤ 6)) := rfl
   have h2 : rng 0 6 t.File = (decide (t.File ≥ 0) && decide (t.File ≤ 6)) := rfl
   have h3 : rng 0 2 t.Mode = (decide (t.Mode ≥ 0) && decide (t.Mode ≤ 2)) := rfl
   rw [h1, h2, h3]
   have hk : t.Kind = 1 ∨ t.Kind = 2 ∨ t.Kind = 3 := by omega
   rcases hk with hk | hk | hk <;> rw [hk] <;> simp only [Int.reduceBEq, cond_true, cond_false, Bool.not_true]
   ·cases rng 0 1073741824 t.Epoch <;> cases rng 1 1073741824 t.Seq <;> cases decide (t.Err ≥ 0) <;> cases decide (t.Err ≤ 7) <;> cases decide (t.File ≥ 0) <;> cases decide (t.File ≤ 6) <;> cases decide (t.Mode ≥ 0) <;> cases decide (t.Mode ≤ 2) <;> rfl
   ·cases rng 0 1073741824 t.Epoch <;> cases decide (t.File ≥ 1) <;> cases decide (t.File ≤ 6) <;> cases TTell.eqb t (TTell.mk 2 t.To t.Epoch 0 0 t.File 0 0 []) <;> rfl
  ·have hf : rng 1 3 t.To = false := by
    cases h : rng 1 3 t.To with
    | false => rfl
    | true => exact absurd (rng_iff.1 h) f0
   rw [hf]
   by_cases f1 : t.To < 1
   ·rw [decide_eq_true f1]; rfl
   ·rw [decide_eq_false f1, decide_eq_true (show t.To > 3 by omega)]; rfl
 ·have hk : rng 1 3 t.Kind = false := by
   cases h : rng 1 3 t.Kind with
   | false => rfl
   | true => exact absurd (rng_iff.1 h) k0
  rw [hk]
  by_cases k1 : t.Kind < 1
  ·rw [decide_eq_true k1]; rfl
  ·rw [decide_eq_false k1, decide_eq_true (show t.Kind > 3 by omega)]; rfl
open Go
def byteAt (v : Int) (k : Nat) : UInt8 := b8 (wu8 (shrI .i64 v (wi64 (8 * (k : Int)))))
def be : Nat → Int → List UInt8
 | 0, _ => []
 | k + 1, v => byteAt v k :: be k v
theorem be_len : ∀ (k : Nat) (v : Int), (be k v).length = k
 | 0, _ => rfl
 | k + 1, v => by rw [be, List.length_cons, be_len k v]
theorem put_loop (v : Int) : ∀ (i : Nat) (b : List UInt8) (n : Nat), i < n → i ≤ 8 → b.length + i ≤ lim → iter (bits_Put_s0 v) n ((i : Int) - 1, b) = some (b ++ be i v)
 | _, _, 0, h, _, _ => absurd h (Nat.not_lt_zero _)
 | 0, b, n + 1, _, _, _ => by
  rw [iter_succ]
  simp only [bits_Put_s0, bits_Put_s0t, get_ite, get_opt, get_ret, get_fail, get_altT, val_ite, val_ret]
  rw [decide_eq_false (by omega)]
  show some b = some (b ++ [])
  rw [List.append_nil]
 | i + 1, b, n + 1, h, h8, hl => by
  rw [iter_succ]
  simp only [bits_Put_s0, bits_Put_s0t, get_ite, get_opt, get_ret, get_fail, get_altT, val_ite, val_ret]
  have e : ((i + 1 : Nat) : Int) - 1 = (i : Int) := by omega
  rw [e, decide_eq_true (show (i : Int) ≥ 0 by omega), wi64_of (show -9223372036854775808 ≤ 8 * (i : Int) by omega) (by omega), decide_eq_false (show ¬ 8 * (i : Int) < 0 by omega), decide_eq_true (show b.length + 1 ≤ lim by omega)]
  simp only [cond_true, cond_false, some_bind, alt_inl]
  rw [wi64_of (by omega) (by omega), put_loop v i _ n (by omega) (by omega) (by rw [List.length_append]; simp only [List.length_cons, List.length_nil]; omega), List.append_assoc]
  rw [show be (i + 1) v = byteAt v i :: be i v from rfl]
  unfold byteAt
  rw [wi64_of (show -9223372036854775808 ≤ 8 * (i : Int) by omega) (by omega)]
  rfl
theorem bits_Put_ok (b : List UInt8) (v : Int) (k : Nat) (h1 : 1 ≤ k) (h8 : k ≤ 8) (hb : b.length + k ≤ lim) : bits_Put fuel b v (k : Int) = some (b ++ be k v) := by
 unfold bits_Put bits_Put_t bits_Put_l0
 try simp only [get_ite, get_opt, get_ret, get_fail, get_altT, val_ite, val_ret]
 rw [decide_eq_false (show ¬ (k : Int) < 1 by omega), decide_eq_false (show ¬ (k : Int) > 8 by omega), wi64_of (by omega) (by omega)]
 simp only [cond_false]
 rw [put_loop v k b fuel (fuel_gt (by omega)) h8 hb]
 rfl
theorem ref1_Put_ok (b : List UInt8) (v : Int) (k : Nat) (h1 : 1 ≤ k) (h8 : k ≤ 8) (hb : b.length + k ≤ lim) : ref1_Put fuel b v (k : Int) = some (b ++ be k v) := by
 rw [← bits_Put_ok b v k h1 h8 hb]
 unfold ref1_Put ref1_Put_t bits_Put bits_Put_t
 try simp only [get_ite, get_opt, get_ret, get_fail, get_altT, val_ite, val_ret]
 rw [decide_eq_true (show b.length ≤ lim by omega)]
 rfl
theorem put1 (b : List UInt8) (v : Int) (h : b.length + 1 ≤ lim) : bits_Put fuel b v 1 = some (b ++ be 1 v) := bits_Put_ok b v 1 (by omega) (by omega) h
theorem put2 (b : List UInt8) (v : Int) (h : b.length + 2 ≤ lim) : bits_Put fuel b v 2 = some (b ++ be 2 v) := bits_Put_ok b v 2 (by omega) (by omega) h
theorem put4 (b : List UInt8) (v : Int) (h : b.length + 4 ≤ lim) : bits_Put fuel b v 4 = some (b ++ be 4 v) := bits_Put_ok b v 4 (by omega) (by omega) h
theorem rput1 (b : List UInt8) (v : Int) (h : b.length + 1 ≤ lim) : ref1_Put fuel b v 1 = some (b ++ be 1 v) := ref1_Put_ok b v 1 (by omega) (by omega) h
theorem rput2 (b : List UInt8) (v : Int) (h : b.length + 2 ≤ lim) : ref1_Put fuel b v 2 = some (b ++ be 2 v) := ref1_Put_ok b v 2 (by omega) (by omega) h
theorem rput4 (b : List UInt8) (v : Int) (h : b.length + 4 ≤ lim) : ref1_Put fuel b v 4 = some (b ++ be 4 v) := ref1_Put_ok b v 4 (by omega) (by omega) h
def txt (s : List UInt8) : List UInt8 := b8 (s.length : Int) :: s
theorem txt_len (s : List UInt8) : (txt s).length = s.length + 1 := rfl
theorem wu8_of {n : Int} (h : 0 ≤ n) (h2 : n < 256) : wu8 n = n := by unfold wu8; rw [IntKind.wrap_u8]; omega
theorem bits_Text_ok (b s : List UInt8) (hs : s.length ≤ 255) (hb : b.length + 256 ≤ lim) : bits_Text b s = some (b ++ txt s) := by
 unfold bits_Text bits_Text_t
 try simp only [get_ite, get_opt, get_ret, get_fail, get_altT, val_ite, val_ret]
 rw [decide_eq_false (show ¬ (s.length : Int) > 255 by omega), decide_eq_true (show b.length + 1 ≤ lim by omega), wu8_of (by omega) (by omega), decide_eq_true (by rw [List.length_append]; simp only [List.length_cons, List.length_nil]; omega)]
 simp only [cond_true, cond_false, List.append_assoc]
 rfl
theorem ref1_Text_ok (b s : List UInt8) (hs : s.length ≤ 255) (hb : b.length + 256 ≤ lim) : ref1_Text b s = some (b ++ txt s) := by
 unfold ref1_Text ref1_Text_t
 try simp only [get_ite, get_opt, get_ret, get_fail, get_altT, val_ite, val_ret]
 rw [decide_eq_true (show b.length ≤ lim by omega), decide_eq_false (show ¬ (s.length : Int) > 255 by omega), decide_eq_true (show b.length + 1 ≤ lim by omega), wu8_of (by omega) (by omega), decide_eq_true (by rw [List.length_append]; simp only [List.length_cons, List.length_nil]; omega)]
 simp only [cond_true, cond_false, List.append_assoc]
 rfl
def tn (m : Nat) : Nat := if m % 2 = 1 then (m / 2) ^^^ 40961 else m / 2
theorem tn_lt {m : Nat} (h : m < 65536) : tn m < 65536 := by
 unfold tn
 split
 ·exact Nat.xor_lt_two_pow (n := 16) (by omega) (by omega)
 ·omega
theorem wrap_u16 (n : Int) : IntKind.u16.wrap n = n % 65536 := by simp [IntKind.wrap, IntKind.bits, IntKind.signed]
theorem bxor_u16 {x y : Nat} (hx : x < 65536) (hy : y < 65536) : bxor .u16 (x : Int) (y : Int) = ((x ^^^ y : Nat) : Int) := by
 unfold bxor
 have h16 : IntKind.u16.bits = 16 := rfl
 rw [h16, BitVec.ofInt_natCast, BitVec.ofInt_natCast, BitVec.toNat_xor, BitVec.toNat_ofNat, BitVec.toNat_ofNat, Nat.mod_eq_of_lt (show x < 2 ^ 16 by omega), Nat.mod_eq_of_lt (show y < 2 ^ 16 by omega), wrap_u16]
 have := Nat.xor_lt_two_pow (n := 16) (show x < 2 ^ 16 by omega) (show y < 2 ^ 16 by omega)
 omega
theorem bxor_i64 {x y : Nat} (hx : x < 65536) (hy : y < 65536) : bxor .i64 (x : Int) (y : Int) = ((x ^^^ y : Nat) : Int) := by
 unfold bxor
 have h64 : IntKind.i64.bits = 64 := rfl
 rw [h64, BitVec.ofInt_natCast, BitVec.ofInt_natCast, BitVec.toNat_xor, BitVec.toNat_ofNat, BitVec.toNat_ofNat, Nat.mod_eq_of_lt (show x < 2 ^ 64 by omega), Nat.mod_eq_of_lt (show y < 2 ^ 64 by omega)]
 have := Nat.xor_lt_two_pow (n := 16) (show x < 2 ^ 16 by omega) (show y < 2 ^ 16 by omega)
 exact wi64_of (by omega) (by omega)
theorem band_u16 {x : Nat} (hx : x < 65536) : band .u16 (x : Int) 1 = ((x % 2 : Nat) : Int) := by
 unfold band
 have h16 : IntKind.u16.bits = 16 := rfl
 rw [h16, show (1 : Int) = ((1 : Nat) : Int) from rfl, BitVec.ofInt_natCast, BitVec.ofInt_natCast, BitVec.toNat_and, BitVec.toNat_ofNat, BitVec.toNat_ofNat, Nat.mod_eq_of_lt (show x < 2 ^ 16 by omega), Nat.mod_eq_of_lt (show 1 < 2 ^ 16 by omega), wrap_u16, Nat.and_one_is_mod]
 omega
theorem shr_u16 (x : Nat) : shrI .u16 (x : Int) 1 = ((x / 2 : Nat) : Int) := by
 unfold shrI
 have : min (1 : Int).toNat IntKind.u16.bits = 1 := rfl
 rw [this]
 show (x : Int).fdiv 2 = _
 rw [Int.fdiv_eq_ediv_of_nonneg _ (by omega)]
 omega
def crcByte (m : Nat) (u : UInt8) : Nat := tn (tn (tn (tn (tn (tn (tn (tn (m ^^^ u.toNat))))))))
def crcN (b : List UInt8) : Nat := b.foldl crcByte 0
theorem xor_lt {m : Nat} (h : m < 65536) (u : UInt8) : m ^^^ u.toNat < 65536 := Nat.xor_lt_two_pow (n := 16) (by omega) (by have := u.toNat_lt; omega)
theorem crcByte_lt {m : Nat} (h : m < 65536) (u : UInt8) : crcByte m u < 65536 := tn_lt (tn_lt (tn_lt (tn_lt (tn_lt (tn_lt (tn_lt (tn_lt (xor_lt h u))))))))
theorem crc_fold_lt : ∀ (b : List UInt8) {m : Nat}, m < 65536 → b.foldl crcByte m < 65536
 | [], m, h => h
 | u :: r, m, h => crc_fold_lt r (crcByte_lt h u)
theorem crcN_lt (b : List UInt8) : crcN b < 65536 := crc_fold_lt b (by omega)
theorem crc_l0 (t6 : List UInt8) (t7 t8 : Int) {m : Nat} (h : m < 65536) : crc_Sum_l0 fuel t6 t7 t8 (m : Int) 0 = some ((tn (tn (tn (tn (tn (tn (tn (tn m))))))) : Nat) : Int) := by
 have key : ∀ (i : Nat) (m : Nat), m < 65536 → i < 8 → crc_Sum_s0 t6 t7 t8 ((m : Int), (i : Int)) = some (.inl (((tn m : Nat) : Int), ((i + 1 : Nat) : Int))) := by
  intro i m hm hi
  simp only [crc_Sum_s0, crc_Sum_s0t, get_ite, get_opt, get_ret, get_fail, get_altT, val_ite, val_ret]
  rw [decide_eq_true (show (i : Int) < 8 by omega), band_u16 hm, shr_u16, wi64_succ (by omega)]
  unfold tn
  split
  ·rename_i ho
   rw [ho]
   have := bxor_u16 (x := m / 2) (y := 40961) (by omega) (by omega)
   rw [show ((40961 : Nat) : Int) = 40961 from rfl] at this
   rw [this]
   rfl
  ·rename_i ho
   have : m % 2 = 0 := by omega
   rw [this]
   rfl
 have last : ∀ m : Nat, crc_Sum_s0 t6 t7 t8 ((m : Int), ((8 : Nat) : Int)) = some (.inr (m : Int)) := fun m => rfl
 unfold crc_Sum_l0
 obtain ⟨n, hn⟩ : ∃ n, fuel = n + 9 := ⟨4294967287, by rw [fuel_eq]⟩
 rw [hn]
 have h0 := h
 have h1 := tn_lt h0
 have h2 := tn_lt h1
 have h3 := tn_lt h2
 have h4 := tn_lt h3
 have h5 := tn_lt h4
 have h6 := tn_lt h5
 have h7 := tn_lt h6
 rw [show (0 : Int) = ((0 : Nat) : Int) from rfl, iter_succ, key 0 _ h0 (by omega), some_bind, alt_inl, iter_succ, key 1 _ h1 (by omega), some_bind, alt_inl, iter_succ, key 2 _ h2 (by omega), some_bind, alt_inl, iter_succ, key 3 _ h3 (by omega), some_bind, alt_inl,
  iter_succ, key 4 _ h4 (by omega), some_bind, alt_inl, iter_succ, key 5 _ h5 (by omega), some_bind, alt_inl, iter_succ, key 6 _ h6 (by omega), some_bind, alt_inl, iter_succ, key 7 _ h7 (by omega), some_bind, alt_inl, iter_succ, last]
 rfl
theorem crc_r0 (b : List UInt8) (i : Int) {m : Nat} (h : m < 65536) : ref1_Crc_l0 fuel b i (m : Int) 0 = some ((tn (tn (tn (tn (tn (tn (tn (tn m))))))) : Nat) : Int) := by
 have key : ∀ (k : Nat) (m : Nat), m < 65536 → k < 8 → ref1_Crc_s0 b i ((m : Int), (k : Int)) = some (.inl (((tn m : Nat) : Int), ((k + 1 : Nat) : Int))) := by
  intro k m hm hi
  simp only [ref1_Crc_s0, ref1_Crc_s0t, get_ite, get_opt, get_ret, get_fail, get_altT, val_ite, val_ret]
  have e1 : (m : Int).tmod 2 = ((m % 2 : Nat) : Int) := by rw [Int.tmod_eq_emod_of_nonneg (by omega)]; omega
  have e2 : wi64 ((m : Int).tdiv 2) = ((m / 2 : Nat) : Int) := by rw [Int.tdiv_eq_ediv_of_nonneg (by omega), wi64_of (by omega) (by omega)]; omega
  rw [decide_eq_true (show (k : Int) < 8 by omega), e1, e2, wi64_succ (by omega)]
  unfold tn
  split
  ·rename_i ho
   rw [ho]
   have := bxor_i64 (x := m / 2) (y := 40961) (by omega) (by omega)
   rw [show ((40961 : Nat) : Int) = 40961 from rfl] at this
   rw [this]
   rfl
  ·rename_i ho
   have : m % 2 = 0 := by omega
   rw [this]
   rfl
 have last : ∀ m : Nat, ref1_Crc_s0 b i ((m : Int), ((8 : Nat) : Int)) = some (.inr (m : Int)) := fun m => rfl
 unfold ref1_Crc_l0
 obtain ⟨n, hn⟩ : ∃ n, fuel = n + 9 := ⟨4294967287, by rw [fuel_eq]⟩
 rw [hn]
 have h0 := h
 have h1 := tn_lt h0
 have h2 := tn_lt h1
 have h3 := tn_lt h2
 have h4 := tn_lt h3
 have h5 := tn_lt h4
 have h6 := tn_lt h5
 have h7 := tn_lt h6
 rw [show (0 : Int) = ((0 : Nat) : Int) from rfl, iter_succ, key 0 _ h0 (by omega), some_bind, alt_inl, iter_succ, key 1 _ h1 (by omega), some_bind, alt_inl, iter_succ, key 2 _ h2 (by omega), some_bind, alt_inl, iter_succ, key 3 _ h3 (by omega), some_bind, alt_inl,
  iter_succ, key 4 _ h4 (by omega), some_bind, alt_inl, iter_succ, key 5 _ h5 (by omega), some_bind, alt_inl, iter_succ, key 6 _ h6 (by omega), some_bind, alt_inl, iter_succ, key 7 _ h7 (by omega), some_bind, alt_inl, iter_succ, last]
 rfl
theorem crc_Sum_ok (b : List UInt8) (hb : b.length < 4294967296) : crc_Sum fuel b = some ((crcN b : Nat) : Int) := by
 have hl : crc_Sum_l1 fuel b (b.length : Int) 0 0 = some ((crcN b : Nat) : Int) := by
  unfold crc_Sum_l1
  have := iter_list0 (xs := b) (step := crc_Sum_s1 fuel b (b.length : Int)) (fun i (m : {m : Nat // m < 65536}) => ((m.1 : Int), (i : Int))) (fun u m => some (.inl ⟨crcByte m.1 u, crcByte_lt m.2 u⟩)) (fun m => (m.1 : Int)) (fun i m u hu => ?_) (fun m => ?_) ⟨0, by omega⟩ (fuel_gt hb)
  ·rw [show ((0 : Int), (0 : Int)) = ((((⟨0, by omega⟩ : {m : Nat // m < 65536}).1 : Nat) : Int), ((0 : Nat) : Int)) from rfl, this]
   have gen : ∀ (l : List UInt8) (m : {m : Nat // m < 65536}), runL (X := Int) (fun u m => some (.inl ⟨crcByte m.1 u, crcByte_lt m.2 u⟩)) (fun m => (m.1 : Int)) l m = some ((l.foldl crcByte m.1 : Nat) : Int) := by
    intro l
    induction l with
    | nil => intro m; rfl
    | cons u r ih => intro m; rw [runL, some_bind, alt_inl, ih]; rfl
   exact gen b _
  ·have hi := at_of hu
   simp only [crc_Sum_s1, crc_Sum_s1t, get_ite, get_opt, get_ret, get_fail, get_altT, val_ite, val_ret, lt_dec hi, inR_nat hi, Int.toNat_natCast, hu, cond_true, some_bind, wi64_succ (Nat.lt_trans hi hb)]
   have e : bxor .u16 (m.1 : Int) (wu16 (i8 u)) = ((m.1 ^^^ u.toNat : Nat) : Int) := by
    have hw : wu16 (i8 u) = ((u.toNat : Nat) : Int) := by
     unfold wu16; rw [wrap_u16]
     have h1 := i8_lo u; have h2 := i8_hi u
     show i8 u % 65536 = i8 u
     omega
    rw [hw]
    exact bxor_u16 m.2 (by have := u.toNat_lt; omega)
   rw [e, crc_l0 _ _ _ (xor_lt m.2 u)]
   rfl
  ·simp only [crc_Sum_s1, crc_Sum_s1t, get_ite, get_opt, get_ret, get_fail, get_altT, val_ite, val_ret, ge_dec, cond_false]
 unfold crc_Sum crc_Sum_t
 try simp only [get_ite, get_opt, get_ret, get_fail, get_altT, val_ite, val_ret]
 rw [hl]
 rfl
theorem ref1_Crc_ok (b : List UInt8) (hb : b.length < 4294967296) : ref1_Crc fuel b = some ((crcN b : Nat) : Int) := by
 have hl : ref1_Crc_l1 fuel b 0 0 = some ((crcN b : Nat) : Int) := by
  unfold ref1_Crc_l1
  have := iter_list0 (xs := b) (step := ref1_Crc_s1 fuel b) (fun i (m : {m : Nat // m < 65536}) => ((m.1 : Int), (i : Int))) (fun u m => some (.inl ⟨crcByte m.1 u, crcByte_lt m.2 u⟩)) (fun m => (m.1 : Int)) (fun i m u hu => ?_) (fun m => ?_) ⟨0, by omega⟩ (fuel_gt hb)
  ·rw [show ((0 : Int), (0 : Int)) = ((((⟨0, by omega⟩ : {m : Nat // m < 65536}).1 : Nat) : Int), ((0 : Nat) : Int)) from rfl, this]
   have gen : ∀ (l : List UInt8) (m : {m : Nat // m < 65536}), runL (X := Int) (fun u m => some (.inl ⟨crcByte m.1 u, crcByte_lt m.2 u⟩)) (fun m => (m.1 : Int)) l m = some ((l.foldl crcByte m.1 : Nat) : Int) := by
    intro l
    induction l with
    | nil => intro m; rfl
    | cons u r ih => intro m; rw [runL, some_bind, alt_inl, ih]; rfl
   exact gen b _
  ·have hi := at_of hu
   simp only [ref1_Crc_s1, ref1_Crc_s1t, get_ite, get_opt, get_ret, get_fail, get_altT, val_ite, val_ret, lt_dec hi, inR_nat hi, Int.toNat_natCast, hu, cond_true, some_bind, wi64_succ (Nat.lt_trans hi hb)]
   have e : bxor .i64 (m.1 : Int) (wi64 (i8 u)) = ((m.1 ^^^ u.toNat : Nat) : Int) := by
    have hw : wi64 (i8 u) = ((u.toNat : Nat) : Int) := by
     have h1 := i8_lo u; have h2 := i8_hi u
     rw [wi64_of (by omega) (by omega)]
    rw [hw]
    exact bxor_i64 m.2 (by have := u.toNat_lt; omega)
   rw [e, crc_r0 _ _ (xor_lt m.2 u)]
   rfl
  ·simp only [ref1_Crc_s1, ref1_Crc_s1t, get_ite, get_opt, get_ret, get_fail, get_altT, val_ite, val_ret, ge_dec, cond_false]
 unfold ref1_Crc ref1_Crc_t
 try simp only [get_ite, get_opt, get_ret, get_fail, get_altT, val_ite, val_ret]
 rw [hl, some_bind]
 have := crcN_lt b
 unfold wu16
 rw [wrap_u16]
 congr 1
 omega
def sealB (b : List UInt8) : List UInt8 := b ++ be 2 (crcN b : Int)
theorem msg_sealed_ok (b : List UInt8) (hb : b.length + 2 ≤ lim) : msg_sealed fuel b = some (sealB b) := by
 unfold msg_sealed msg_sealed_t
 try simp only [get_ite, get_opt, get_ret, get_fail, get_altT, val_ite, val_ret]
 have h := crcN_lt b
 rw [crc_Sum_ok b (by have : lim = 2147483648 := rfl; omega), some_bind, wi64_of (by omega) (by omega), put2 _ _ hb]
 rfl
theorem ref13_sealed_ok (b : List UInt8) (hb : b.length + 2 ≤ lim) : ref13_sealed fuel b = some (sealB b) := by
 unfold ref13_sealed ref13_sealed_t
 try simp only [get_ite, get_opt, get_ret, get_fail, get_altT, val_ite, val_ret]
 have h := crcN_lt b
 rw [ref1_Crc_ok b (by have : lim = 2147483648 := rfl; omega), some_bind, wi64_of (by omega) (by omega), rput2 _ _ hb]
 rfl
open Go
theorem lim_eq : lim = 2147483648 := rfl
theorem file_May_iff {w : TWrite} : file_May w = true ↔ 0 ≤ w.Off ∧ 1 ≤ (w.B.length : Int) ∧ (w.B.length : Int) ≤ 24 ∧ w.Off ≤ 24 - (w.B.length : Int) := by
 unfold file_May file_May_t
 try simp only [get_ite, get_opt, get_ret, get_fail, get_altT, val_ite, val_ret]
 by_cases h1 : w.Off ≥ 0 <;> by_cases h2 : (w.B.length : Int) ≥ 1 <;> by_cases h3 : (w.B.length : Int) ≤ 24 <;> simp only [h1, h2, h3, decide_true, decide_false, cond_true, cond_false, id]
 ·rw [wi64_of (by omega) (by omega)]
  simp
 all_goals (simp <;> omega)
theorem mayName_iff {s : List UInt8} : mayName s = true → 1 ≤ s.length ∧ s.length ≤ 8 := by
 intro h
 simp [mayName] at h
 omega
theorem mayAsk_of {a : TAsk} (h : mayAsk a = true) : (1 ≤ a.Kind ∧ a.Kind ≤ 5) ∧ (1 ≤ a.From ∧ a.From ≤ 3) ∧ (0 ≤ a.Epoch ∧ a.Epoch ≤ 1073741824) ∧ (1 ≤ a.Seq ∧ a.Seq ≤ 1073741824) ∧ a.Name.length ≤ 8 ∧ (0 ≤ a.File ∧ a.File ≤ 6) ∧ (0 ≤ a.Mode ∧ a.Mode ≤ 2) ∧ a.Writes.length ≤ 5 ∧ ∀ w ∈ a.Writes, file_May w = true := by
 unfold mayAsk at h
 simp only [Bool.and_eq_true] at h
 obtain ⟨h1, h2, h3, h4, h5, h6⟩ := h
 rw [rng_iff] at h1 h2 h3 h4
 refine ⟨h1, h2, h3, h4, ?_⟩
 have h6 := (sameAsk_iff _ _).1 h6
 unfold want at h6
 unfold wantOk at h5
 cases k1 : a.Kind == 1 with
 | true =>
  rw [k1] at h6 h5
  simp only [cond_true] at h6 h5
  have := mayName_iff h5
  rw [h6]
  simp
  omega
 | false =>
  rw [k1] at h6 h5
  simp only [cond_false] at h6 h5
  cases k2 : a.Kind == 2 with
  | true =>
   rw [k2] at h6 h5
   simp only [cond_true, Bool.and_eq_true, rng_iff] at h6 h5
   rw [h6]
   simp
   omega
  | false =>
   rw [k2] at h6 h5
   simp only [cond_false] at h6 h5
   cases k3 : wantW a with
   | true =>
    rw [k3] at h6 h5
    simp only [cond_true, Bool.and_eq_true, rng_iff, decide_eq_true_eq] at h6 h5
    obtain ⟨g1, g2, g3, g4⟩ := h5
    have e1 : a.Name = [] := by rw [h6]
    have e2 : a.Mode = 0 := by rw [h6]
    refine ⟨by rw [e1]; simp, by omega, by omega, by omega, fun w hw => ?_⟩
    rw [List.all_eq_true] at g4
    exact g4 w hw
   | false =>
    rw [k3] at h6 h5
    simp only [cond_false, rng_iff] at h6 h5
    have e1 : a.Name = [] := by rw [h6]
    have e2 : a.Mode = 0 := by rw [h6]
    have e3 : a.Writes = [] := by rw [h6]
    refine ⟨by rw [e1]; simp, by omega, by omega, by rw [e3]; simp, fun w hw => ?_⟩
    rw [e3] at hw; cases hw
def bodyTell (t : TTell) : List UInt8 := be 1 t.Kind ++ (be 1 t.To ++ (be 4 t.Epoch ++ (be 4 t.Seq ++ (be 1 t.Err ++ (be 1 t.File ++ (be 1 t.Mode ++ (be 4 t.Ver ++ txt t.Body)))))))
def putTell (t : TTell) : List UInt8 := bif msg_MayTell t then sealB (bodyTell t) else []
theorem bodyTell_len (t : TTell) : (bodyTell t).length = 18 + t.Body.length := by
 unfold bodyTell
 simp only [List.length_append, be_len, txt_len]
 omega
theorem mayTell_of {t : TTell} (h : msg_MayTell t = true) : (1 ≤ t.Kind ∧ t.Kind ≤ 3) ∧ (1 ≤ t.To ∧ t.To ≤ 3) ∧ (0 ≤ t.Epoch ∧ t.Epoch ≤ 1073741824) ∧ (0 ≤ t.Seq ∧ t.Seq ≤ 1073741824) ∧ (0 ≤ t.Err ∧ t.Err ≤ 7) ∧ (0 ≤ t.File ∧ t.File ≤ 6) ∧ (0 ≤ t.Mode ∧ t.Mode ≤ 2) ∧ (0 ≤ t.Ver ∧ t.Ver ≤ 1073741824) ∧ t.Body.length ≤ 24 := by
 unfold msg_MayTell msg_MayTell_t at h
 try simp only [get_ite, get_opt, get_ret, get_fail, get_altT, val_ite, val_ret] at h
 simp only [msg_from_eq, id] at h
 cases h1 : rng 1 3 t.Kind with
 | false => rw [h1] at h; cases h
 | true =>
  cases h2 : rng 1 3 t.To with
  | false => rw [h1, h2] at h; cases h
  | true =>
   cases h3 : rng 0 1073741824 t.Epoch with
   | false => rw [h1, h2, h3] at h; cases h
   | true =>
    rw [h1, h2, h3] at h
    rw [rng_iff] at h1 h2 h3
    refine ⟨h1, h2, h3, ?_⟩
    simp only [Bool.not_true, cond_false] at h
    cases k2 : t.Kind == 2 with
    | true =>
     rw [k2] at h
     cases he : TTell.eqb t (TTell.mk t.Kind t.To t.Epoch 0 0 t.File 0 0 []) with
     | false => rw [he] at h; cases h
     | true =>
      rw [he] at h
      have e := (tell_eqb _ _).1 he
      have hf := rng_iff.1 h
      rw [e]
      simp
      omega
    | false =>
     rw [k2] at h
     cases k3 : t.Kind == 3 with
     | true =>
      rw [k3] at h
      have e := (tell_eqb _ _).1 h
      rw [e]
      simp
     | false =>
      rw [k3] at h
      simp only [cond_false] at h
      cases g1 : rng 1 1073741824 t.Seq with
      | false => rw [g1] at h; cases h
      | true =>
       by_cases g2 : t.Err ≥ 0
       ·by_cases g3 : t.Err ≤ 7
        ·cases g4 : rng 0 6 t.File with
         | false => rw [g1, decide_eq_true g2, decide_eq_true g3, g4] at h; cases h
         | true =>
          cases g5 : rng 0 2 t.Mode with
          | false => rw [g1, decide_eq_true g2, decide_eq_true g3, g4, g5] at h; cases h
          | true =>
           cases g6 : rng 0 1073741824 t.Ver with
           | false => rw [g1, decide_eq_true g2, decide_eq_true g3, g4, g5, g6] at h; cases h
           | true =>
            rw [g1, decide_eq_true g2, decide_eq_true g3, g4, g5, g6] at h
            simp only [cond_true, decide_eq_true_eq] at h
            rw [rng_iff] at g1 g4 g5 g6
            exact ⟨by omega, by omega, by omega, by omega, by omega, by omega⟩
        ·rw [g1, decide_eq_true g2, decide_eq_false g3] at h; cases h
       ·rw [g1, decide_eq_false g2] at h; cases h
theorem msg_PutTell_ok (t : TTell) : msg_PutTell fuel t = some (putTell t) := by
 unfold msg_PutTell msg_PutTell_t putTell
 try simp only [get_ite, get_opt, get_ret, get_fail, get_altT, val_ite, val_ret]
 cases h : msg_MayTell t with
 | false => rfl
 | true =>
  obtain ⟨_, _, _, _, _, _, _, _, h9⟩ := mayTell_of h
  simp only [Bool.not_true, cond_false, cond_true]
  rw [put1 _ _ (by rw [lim_eq]; simp), some_bind, put1 _ _ (by rw [lim_eq]; simp only [List.length_append, List.length_nil, be_len]; omega), some_bind, put4 _ _ (by rw [lim_eq]; simp only [List.length_append, List.length_nil, be_len]; omega), some_bind, put4 _ _ (by rw [lim_eq]; simp only [List.length_append, List.length_nil, be_len]; omega), some_bind,
   put1 _ _ (by rw [lim_eq]; simp only [List.length_append, List.length_nil, be_len]; omega), some_bind, put1 _ _ (by rw [lim_eq]; simp only [List.length_append, List.length_nil, be_len]; omega), some_bind, put1 _ _ (by rw [lim_eq]; simp only [List.length_append, List.length_nil, be_len]; omega), some_bind, put4 _ _ (by rw [lim_eq]; simp only [List.length_append, List.length_nil, be_len]; omega), some_bind,
   bits_Text_ok _ _ (by omega) (by rw [lim_eq]; simp only [List.length_append, List.length_nil, be_len]; omega), some_bind]
  have e : (((((((([] ++ be 1 t.Kind) ++ be 1 t.To) ++ be 4 t.Epoch) ++ be 4 t.Seq) ++ be 1 t.Err) ++ be 1 t.File) ++ be 1 t.Mode) ++ be 4 t.Ver) ++ txt t.Body = bodyTell t := by
   simp only [bodyTell, List.nil_append, List.append_assoc]
  rw [e, msg_sealed_ok _ (by have := bodyTell_len t; rw [lim_eq]; omega), some_bind]
theorem ref13_PutTell_ok (t : TTell) : ref13_PutTell fuel t = some (putTell t) := by
 unfold ref13_PutTell ref13_PutTell_t putTell
 try simp only [get_ite, get_opt, get_ret, get_fail, get_altT, val_ite, val_ret]
 rw [← MayTell_eq]
 cases h : msg_MayTell t with
 | false => rfl
 | true =>
  obtain ⟨_, _, _, _, _, _, _, _, h9⟩ := mayTell_of h
  simp only [Bool.not_true, cond_false, cond_true]
  rw [rput1 _ _ (by rw [lim_eq]; simp), some_bind, rput1 _ _ (by rw [lim_eq]; simp only [List.length_append, List.length_nil, be_len]; omega), some_bind, rput4 _ _ (by rw [lim_eq]; simp only [List.length_append, List.length_nil, be_len]; omega), some_bind, rput4 _ _ (by rw [lim_eq]; simp only [List.length_append, List.length_nil, be_len]; omega), some_bind,
   rput1 _ _ (by rw [lim_eq]; simp only [List.length_append, List.length_nil, be_len]; omega), some_bind, rput1 _ _ (by rw [lim_eq]; simp only [List.length_append, List.length_nil, be_len]; omega), some_bind, rput1 _ _ (by rw [lim_eq]; simp only [List.length_append, List.length_nil, be_len]; omega), some_bind, rput4 _ _ (by rw [lim_eq]; simp only [List.length_append, List.length_nil, be_len]; omega), some_bind,
   ref1_Text_ok _ _ (by omega) (by rw [lim_eq]; simp only [List.length_append, List.length_nil, be_len]; omega), some_bind]
  have e : (((((((([] ++ be 1 t.Kind) ++ be 1 t.To) ++ be 4 t.Epoch) ++ be 4 t.Seq) ++ be 1 t.Err) ++ be 1 t.File) ++ be 1 t.Mode) ++ be 4 t.Ver) ++ txt t.Body = bodyTell t := by
   simp only [bodyTell, List.nil_append, List.append_assoc]
  rw [e, ref13_sealed_ok _ (by have := bodyTell_len t; rw [lim_eq]; omega), some_bind]
open Go
def val (l : List UInt8) : Int := l.foldl (fun v x => v * 256 + i8 x) 0
def num (k : Nat) (b : List UInt8) : Option (Int × List UInt8) := if b.length < k then none else some (val (b.take k), b.drop k)
theorem bor_add {v x : Nat} (hv : v < 36028797018963968) (hx : x < 256) : bor .i64 (shlI .i64 (v : Int) 8) (x : Int) = (v : Int) * 256 + (x : Int) := by
 have h1 : shlI .i64 (v : Int) 8 = ((v <<< 8 : Nat) : Int) := by
  unfold shlI
  have : min (8 : Int).toNat IntKind.i64.bits = 8 := rfl
  rw [this, Nat.shiftLeft_eq]
  show wi64 ((v : Int) * 2 ^ 8) = _
  rw [wi64_of (by omega) (by omega)]
  omega
 rw [h1]
 unfold bor
 have h64 : IntKind.i64.bits = 64 := rfl
 have hs : v <<< 8 < 2 ^ 64 := by rw [Nat.shiftLeft_eq]; omega
 rw [h64, BitVec.ofInt_natCast, BitVec.ofInt_natCast, BitVec.toNat_or, BitVec.toNat_ofNat, BitVec.toNat_ofNat, Nat.mod_eq_of_lt hs, Nat.mod_eq_of_lt (show x < 2 ^ 64 by omega), ← Nat.shiftLeft_add_eq_or_of_lt (show x < 2 ^ 8 by omega), Nat.shiftLeft_eq]
 show wi64 _ = _
 rw [wi64_of (by omega) (by omega)]
 omega
theorem val_step (v : Int) (x : UInt8) (h0 : 0 ≤ v) (h1 : v < 36028797018963968) : bor .i64 (shlI .i64 v 8) (wi64 (i8 x)) = v * 256 + i8 x := by
 have e := bor_add (v := v.toNat) (x := x.toNat) (by omega) x.toNat_lt
 have hx0 := i8_lo x
 have hx1 := i8_hi x
 rw [wi64_of (by omega) (by omega)]
 have e1 : ((v.toNat : Nat) : Int) = v := by omega
 rw [e1] at e
 exact e
theorem fold_bound : ∀ (l : List UInt8) (v : Int), 0 ≤ v → 0 ≤ l.foldl (fun v x => v * 256 + i8 x) v ∧ l.foldl (fun v x => v * 256 + i8 x) v < (v + 1) * 256 ^ l.length
 | [], v, h => by simp; omega
 | x :: r, v, h => by
  have h1 := i8_lo x
  have h2 := i8_hi x
  obtain ⟨g1, g2⟩ := fold_bound r (v * 256 + i8 x) (by omega)
  refine ⟨g1, ?_⟩
  have h3 : (v * 256 + i8 x + 1) ≤ (v + 1) * 256 := by omega
  have h4 : (0 : Int) ≤ 256 ^ r.length := by have : (0 : Int) < 256 ^ r.length := Int.pow_pos (by omega); omega
  have h5 := Int.mul_le_mul_of_nonneg_right h3 h4
  have h6 : (v + 1) * 256 ^ (x :: r).length = (v + 1) * 256 * 256 ^ r.length := by rw [List.length_cons, Int.pow_succ, Int.mul_assoc, Int.mul_comm (256 ^ r.length) 256]
  rw [h6]
  exact Int.lt_of_lt_of_le g2 h5
theorem val_lo (l : List UInt8) : 0 ≤ val l := (fold_bound l 0 (Int.le_refl _)).1
theorem val_hi (l : List UInt8) : val l < 256 ^ l.length := by have := (fold_bound l 0 (Int.le_refl _)).2; rw [Int.zero_add, Int.one_mul] at this; exact this
theorem pow_le7 {k : Nat} (h : k ≤ 6) : (256 : Int) ^ k ≤ 281474976710656 := by
 have : k = 0 ∨ k = 1 ∨ k = 2 ∨ k = 3 ∨ k = 4 ∨ k = 5 ∨ k = 6 := by omega
 rcases this with rfl | rfl | rfl | rfl | rfl | rfl | rfl <;> decide
theorem take_loop (l : List UInt8) (ok : Bool) (h7 : l.length ≤ 7) : bits_Take_l0 fuel l (l.length : Int) ok 0 0 = some (val l) := by
 have key : ∀ (r p : List UInt8) (n : Nat), l = p ++ r → r.length < n → iter (bits_Take_s0 l (l.length : Int) ok) n (val p, (p.length : Int)) = some (val l) := by
  intro r
  induction r with
  | nil =>
   intro p n hp hn
   rw [List.append_nil] at hp
   subst hp
   cases n with
   | zero => exact absurd hn (Nat.not_lt_zero _)
   | succ n =>
    rw [iter_succ]
    simp only [bits_Take_s0, bits_Take_s0t, get_ite, get_opt, get_ret, get_fail, get_altT, val_ite, val_ret, ge_dec, cond_false, some_bind, alt_inr]
  | cons x r ih =>
   intro p n hp hn
   have hlt : p.length < l.length := by rw [hp]; simp
   have hx : l[p.length]? = some x := by rw [hp]; simp
   cases n with
   | zero => exact absurd hn (Nat.not_lt_zero _)
   | succ n =>
    rw [iter_succ]
    simp only [bits_Take_s0, bits_Take_s0t, get_ite, get_opt, get_ret, get_fail, get_altT, val_ite, val_ret, lt_dec hlt, inR_nat hlt, Int.toNat_natCast, hx, cond_true, some_bind, alt_inl]
    have hb := val_hi p
    have hp6 := pow_le7 (k := p.length) (by omega)
    rw [val_step _ _ (val_lo p) (by omega), wi64_succ (by omega)]
    have e : val p * 256 + i8 x = val (p ++ [x]) := by unfold val; rw [List.foldl_append]; rfl
    have e2 : ((p.length + 1 : Nat) : Int) = ((p ++ [x]).length : Int) := by simp
    rw [e, e2]
    exact ih (p ++ [x]) n (by rw [hp]; simp) (by simp at hn; omega)
 exact key l [] fuel rfl (fuel_gt (by omega))
theorem cutOk_of {lo hi : Int} {n : Nat} (h1 : 0 ≤ lo) (h2 : lo ≤ hi) (h3 : hi ≤ n) : cutOk lo hi n = true := by
 unfold cutOk; simp [h1, h2, h3]
theorem cut_front {α : Type} (b : List α) (k : Nat) : cutL b 0 (k : Int) = b.take k := by
 unfold cutL; simp
theorem cut_back {α : Type} (b : List α) (k : Nat) : cutL b (k : Int) (b.length : Int) = b.drop k := by
 unfold cutL; simp
theorem bits_front_ok (b : List UInt8) (k : Nat) : bits_front b (k : Int) = some (if b.length < k then .inr () else .inl (b.take k)) := by
 unfold bits_front bits_front_t
 try simp only [get_ite, get_opt, get_ret, get_fail, get_altT, val_ite, val_ret]
 by_cases h : b.length < k
 ·rw [decide_eq_true (show (b.length : Int) < k by omega), if_pos h]; rfl
 ·rw [decide_eq_false (show ¬ (b.length : Int) < k by omega), if_neg h, cutOk_of (by omega) (by omega) (by omega), cut_front]; rfl
theorem bits_Take_ok (b : List UInt8) (k : Nat) (h1 : 1 ≤ k) (h7 : k ≤ 7) : bits_Take fuel b (k : Int) = some (match num k b with | some (v, _) => (v, true) | none => (0, false)) := by
 unfold bits_Take bits_Take_t
 try simp only [get_ite, get_opt, get_ret, get_fail, get_altT, val_ite, val_ret]
 rw [decide_eq_false (show ¬ (k : Int) < 1 by omega), decide_eq_false (show ¬ (k : Int) > 7 by omega), bits_front_ok]
 unfold num
 by_cases h : b.length < k
 ·rw [if_pos h, if_pos h]; rfl
 ·have hl : (b.take k).length = k := by rw [List.length_take]; omega
  rw [if_neg h, if_neg h]
  simp only [cond_false, some_bind, alt_inl]
  rw [take_loop _ _ (by omega)]
  rfl
theorem reader_num_ok (b : List UInt8) (k : Nat) (h1 : 1 ≤ k) (h7 : k ≤ 7) : msg_reader_num fuel (k : Int) ⟨b⟩ = some (match num k b with | some (v, r) => .inl (v, ⟨r⟩) | none => .inr ()) := by
 unfold msg_reader_num msg_reader_num_t
 try simp only [get_ite, get_opt, get_ret, get_fail, get_altT, val_ite, val_ret]
 rw [bits_Take_ok b k h1 h7]
 unfold num
 by_cases h : b.length < k
 ·rw [if_pos h]; rfl
 ·rw [if_neg h]
  simp only [some_bind, Bool.not_true, cond_false]
  rw [cutOk_of (by omega) (by omega) (by omega), cut_back]
  rfl
def text : List UInt8 → Option (List UInt8 × List UInt8)
 | [] => none
 | x :: r => if r.length < x.toNat then none else some (r.take x.toNat, r.drop x.toNat)
theorem text_cons (x : UInt8) (r : List UInt8) : text (x :: r) = if r.length < x.toNat then none else some (r.take x.toNat, r.drop x.toNat) := rfl
theorem take_text_ok (b : List UInt8) (hb : b.length ≤ lim) : bits_TakeText b = some (match text b with | some (s, _) => (s, (s.length : Int) + 1, true) | none => ([], 0, false)) := by
 unfold bits_TakeText bits_TakeText_t
 try simp only [get_ite, get_opt, get_ret, get_fail, get_altT, val_ite, val_ret]
 have h1 := bits_front_ok b 1
 rw [show ((1 : Nat) : Int) = 1 from rfl] at h1
 rw [h1]
 cases b with
 | nil => rfl
 | cons x r =>
  have hx0 := i8_lo x
  have hx1 := i8_hi x
  rw [if_neg (by simp)]
  simp only [some_bind, alt_inl]
  have h2 : inR 0 ((x :: r).take 1).length = true := inR_of (by omega) (by simp)
  have h3 : ((x :: r).take 1)[0]? = some x := rfl
  rw [h2, h3]
  simp only [cond_true, some_bind]
  rw [wi64_of (show -9223372036854775808 ≤ i8 x by omega) (by omega), wi64_of (show -9223372036854775808 ≤ i8 x + 1 by omega) (by omega)]
  rw [text_cons]
  by_cases h : r.length < x.toNat
  ·rw [if_pos h, decide_eq_true (by rw [List.length_cons]; show ((r.length + 1 : Nat) : Int) < ((x.toNat : Nat) : Int) + 1; omega)]; rfl
  ·have e : cutL (x :: r) 1 (i8 x + 1) = r.take x.toNat := by
    unfold cutL
    have : (i8 x + 1).toNat = x.toNat + 1 := by unfold i8; omega
    rw [this]
    simp
   rw [if_neg h, decide_eq_false (by rw [List.length_cons]; show ¬ ((r.length + 1 : Nat) : Int) < ((x.toNat : Nat) : Int) + 1; omega), cutOk_of (by omega) (by omega) (by rw [List.length_cons]; show ((x.toNat : Nat) : Int) + 1 ≤ ((r.length + 1 : Nat) : Int); omega), e]
   have e2 : ((r.take x.toNat).length : Int) = i8 x := by rw [List.length_take]; unfold i8; omega
   simp only [cond_false, cond_true, e2]
theorem text_parts {b s r : List UInt8} (h : text b = some (s, r)) : s.length ≤ 255 ∧ s.length + 1 ≤ b.length ∧ r = b.drop (s.length + 1) := by
 cases b with
 | nil => cases h
 | cons x t =>
  rw [text_cons] at h
  have hx := x.toNat_lt
  by_cases hl : t.length < x.toNat
  ·rw [if_pos hl] at h; cases h
  ·rw [if_neg hl] at h
   cases h
   have e : (t.take x.toNat).length = x.toNat := by rw [List.length_take]; omega
   refine ⟨by omega, by rw [List.length_cons]; omega, by rw [e]; rfl⟩
theorem reader_text_ok (b : List UInt8) (hb : b.length ≤ lim) : msg_reader_text ⟨b⟩ = some (match text b with | some (s, r) => .inl (s, ⟨r⟩) | none => .inr ()) := by
 unfold msg_reader_text msg_reader_text_t
 try simp only [get_ite, get_opt, get_ret, get_fail, get_altT, val_ite, val_ret]
 rw [take_text_ok b hb]
 cases h : text b with
 | none => rfl
 | some p =>
  obtain ⟨s, r⟩ := p
  obtain ⟨h1, h2, h3⟩ := text_parts h
  simp only [some_bind, Bool.not_true, cond_false]
  rw [cutOk_of (by omega) (by omega) (by omega)]
  have := cut_back b (s.length + 1)
  rw [show ((s.length + 1 : Nat) : Int) = (s.length : Int) + 1 by omega] at this
  rw [this, h3]
  rfl
open Go
theorem num_parts {k : Nat} {b : List UInt8} {v : Int} {r : List UInt8} (h : num k b = some (v, r)) : r.length + k = b.length ∧ 0 ≤ v ∧ v < 256 ^ k ∧ v = val (b.take k) ∧ r = b.drop k := by
 unfold num at h
 by_cases hl : b.length < k
 ·rw [if_pos hl] at h; cases h
 ·rw [if_neg hl] at h
  cases h
  have e : (b.take k).length = k := by rw [List.length_take]; omega
  have := val_hi (b.take k)
  rw [e] at this
  exact ⟨by rw [List.length_drop]; omega, val_lo _, this, rfl, rfl⟩
theorem rd1 (b : List UInt8) : msg_reader_num fuel 1 ⟨b⟩ = some (match num 1 b with | some (v, r) => .inl (v, ⟨r⟩) | none => .inr ()) := reader_num_ok b 1 (by omega) (by omega)
theorem rd4 (b : List UInt8) : msg_reader_num fuel 4 ⟨b⟩ = some (match num 4 b with | some (v, r) => .inl (v, ⟨r⟩) | none => .inr ()) := reader_num_ok b 4 (by omega) (by omega)
def rOut {α : Type} (o : Option (α × List UInt8)) (s : (α × Tmsg_reader) ⊕ Tmsg_reader) : Prop :=
 match o with
 | some (a, r) => s = .inl (a, ⟨r⟩)
 | none => ∃ q, s = .inr q
theorem equal_bytes (a b : List UInt8) (h : a.length < 4294967296) : slices_Equal_byte fuel a b = some (a == b) := by
 have zipeq : ∀ a b : List UInt8, a.length = b.length → ((a.zip b).all fun p => !(i8 p.1 != i8 p.2)) = (a == b) := by
  intro a
  induction a with
  | nil => intro b hb; cases b with | nil => rfl | cons => simp at hb
  | cons x r ih =>
   intro b hb
   cases b with
   | nil => simp at hb
   | cons y s =>
    have e := ih s (by simpa using hb)
    simp only [List.zip_cons_cons, List.all_cons, e, List.cons_beq_cons]
    congr 1
    by_cases hxy : x = y
    ·subst hxy; simp
    ·have : i8 x ≠ i8 y := fun h => hxy (i8_inj h)
     rw [show (i8 x != i8 y) = true from by rw [bne_iff_ne]; exact this]
     rw [show (x == y) = false from by rw [beq_eq_false_iff_ne]; exact hxy]
     rfl
 unfold slices_Equal_byte slices_Equal_byte_t
 try simp only [get_ite, get_opt, get_ret, get_fail, get_altT, val_ite, val_ret]
 by_cases hl : a.length = b.length
 ·have hz : (a.zip b).length = a.length := by rw [List.length_zip]; omega
  have hl0 : slices_Equal_byte_l0 fuel a b (a.length : Int) 0 = some (bif (a.zip b).all (fun p => !(i8 p.1 != i8 p.2)) then .inr () else .inl ()) := by
   unfold slices_Equal_byte_l0
   rw [← runL_all (fun p : UInt8 × UInt8 => !(i8 p.1 != i8 p.2)) (Sum.inl ()) (Sum.inr ()) (a.zip b)]
   refine iter_list0 (xs := a.zip b) (fun i (_ : Unit) => (i : Int)) _ _ (fun i _ p hp => ?_) (fun _ => ?_) () (fuel_gt (by omega))
   ·have hi := at_of hp
    obtain ⟨h1, h2⟩ := zip_at hp
    rw [hz] at hi
    simp only [slices_Equal_byte_s0, slices_Equal_byte_s0t, get_ite, get_opt, get_ret, get_fail, get_altT, val_ite, val_ret, lt_dec hi, inR_nat hi, inR_nat (at_of h2), Int.toNat_natCast, h1, h2, cond_true, some_bind, wi64_succ (Nat.lt_trans hi h)]
    cases (i8 p.1 != i8 p.2) <;> rfl
   ·simp only [slices_Equal_byte_s0, slices_Equal_byte_s0t, get_ite, get_opt, get_ret, get_fail, get_altT, val_ite, val_ret, hz, ge_dec, cond_false]
  have : ((a.length : Int) != (b.length : Int)) = false := by simp [hl]
  rw [this, hl0, ← zipeq a b hl]
  cases (a.zip b).all (fun p => !(i8 p.1 != i8 p.2)) <;> rfl
 ·have : ((a.length : Int) != (b.length : Int)) = true := by simp; omega
  have h2 : (a == b) = false := by
   cases he : a == b with
   | false => rfl
   | true => exact absurd (by rw [eq_of_beq he]) hl
  rw [this, h2]
  rfl
theorem sealB_len (b : List UInt8) : (sealB b).length = b.length + 2 := by unfold sealB; rw [List.length_append, be_len]
open Go
def pTell (b : List UInt8) : Option (TTell × List UInt8) :=
 (num 1 b).bind fun k => (num 1 k.2).bind fun f => (num 4 f.2).bind fun e => (num 4 e.2).bind fun s => (num 1 s.2).bind fun er => (num 1 er.2).bind fun fl => (num 1 fl.2).bind fun m => (num 4 m.2).bind fun ve =>
  (text ve.2).bind fun w => some (⟨k.1, f.1, e.1, s.1, er.1, fl.1, m.1, ve.1, w.1⟩, w.2)
theorem pTell_parts {b : List UInt8} {t : TTell} {r : List UInt8} (h : pTell b = some (t, r)) : b ≠ [] := by
 rintro rfl
 cases h
theorem reader_tell_ok (b : List UInt8) (hb : b.length ≤ lim) : ∃ s, msg_reader_tell fuel ⟨b⟩ = some s ∧ rOut (pTell b) s := by
 unfold msg_reader_tell msg_reader_tell_t pTell
 try simp only [get_ite, get_opt, get_ret, get_fail, get_altT, val_ite, val_ret]
 rw [rd1]
 cases h1 : num 1 b with
 | none => exact ⟨_, rfl, _, rfl⟩
 | some p1 =>
  obtain ⟨k, b1⟩ := p1
  have g1 := num_parts h1
  simp only [some_bind, alt_inl]
  rw [rd1]
  cases h2 : num 1 b1 with
  | none => exact ⟨_, rfl, _, rfl⟩
  | some p2 =>
   obtain ⟨f, b2⟩ := p2
   have g2 := num_parts h2
   simp only [some_bind, alt_inl]
   rw [rd4]
   cases h3 : num 4 b2 with
   | none => exact ⟨_, rfl, _, rfl⟩
   | some p3 =>
    obtain ⟨e, b3⟩ := p3
    have g3 := num_parts h3
    simp only [some_bind, alt_inl]
    rw [rd4]
    cases h4 : num 4 b3 with
    | none => exact ⟨_, rfl, _, rfl⟩
    | some p4 =>
     obtain ⟨s, b4⟩ := p4
     have g4 := num_parts h4
     simp only [some_bind, alt_inl]
     rw [rd1]
     cases h5 : num 1 b4 with
     | none => exact ⟨_, rfl, _, rfl⟩
     | some p5 =>
      obtain ⟨er, b5⟩ := p5
      have g5 := num_parts h5
      simp only [some_bind, alt_inl]
      rw [rd1]
      cases h6 : num 1 b5 with
      | none => exact ⟨_, rfl, _, rfl⟩
      | some p6 =>
       obtain ⟨fl, b6⟩ := p6
       have g6 := num_parts h6
       simp only [some_bind, alt_inl]
       rw [rd1]
       cases h7 : num 1 b6 with
       | none => exact ⟨_, rfl, _, rfl⟩
       | some p7 =>
        obtain ⟨m, b7⟩ := p7
        have g7 := num_parts h7
        simp only [some_bind, alt_inl]
        rw [rd4]
        cases h8 : num 4 b7 with
        | none => exact ⟨_, rfl, _, rfl⟩
        | some p8 =>
         obtain ⟨n, b8⟩ := p8
         have g8 := num_parts h8
         simp only [some_bind, alt_inl]
         rw [reader_text_ok _ (by omega)]
         cases h9 : text b8 with
         | none => exact ⟨_, rfl, _, rfl⟩
         | some p9 => exact ⟨_, rfl, rfl⟩
def noTell : TTell := ⟨0, 0, 0, 0, 0, 0, 0, 0, []⟩
def takeTell (b : List UInt8) : TTell × Bool :=
 match pTell b with
 | some (a, _) => bif putTell a == b then (a, true) else (noTell, false)
 | none => (noTell, false)
theorem putTell_len (t : TTell) : (putTell t).length ≤ 44 := by
 unfold putTell
 cases h : msg_MayTell t with
 | false => simp
 | true =>
  obtain ⟨_, _, _, _, _, _, _, _, h9⟩ := mayTell_of h
  have := bodyTell_len t
  simp only [cond_true, sealB_len]; omega
theorem msg_TakeTell_ok (b : List UInt8) (hb : b.length ≤ lim) : msg_TakeTell fuel b = some (takeTell b) := by
 obtain ⟨s, h1, h2⟩ := reader_tell_ok b hb
 unfold msg_TakeTell msg_TakeTell_t msg_takes_Tell msg_takes_Tell_t
 try simp only [get_ite, get_opt, get_ret, get_fail, get_altT, val_ite, val_ret]
 rw [h1]
 unfold takeTell
 cases hp : pTell b with
 | none =>
  rw [hp] at h2
  obtain ⟨q, rfl⟩ := h2
  rfl
 | some p =>
  obtain ⟨a, r⟩ := p
  rw [hp] at h2
  simp only [rOut] at h2
  subst h2
  have hb0 : ((b.length : Int) == 0) = false := by
   cases b with
   | nil => exact absurd rfl (pTell_parts hp)
   | cons x t => simp; omega
  simp only [some_bind, alt_inl]
  rw [hb0, msg_PutTell_ok a]
  simp only [some_bind, cond_false]
  rw [equal_bytes _ _ (by have := putTell_len a; omega)]
  cases putTell a == b <;> rfl
theorem putTell_no {a : TTell} (h : msg_MayTell a = false) : putTell a = [] := by unfold putTell; rw [h]; rfl
open Go
theorem i8_byteAt {v : Int} (h : 0 ≤ v) (k : Nat) (hk : k ≤ 3) : i8 (byteAt v k) = v / 256 ^ k % 256 := by
 have key : ∀ s : Int, byteAt v k = b8 (wu8 s) → i8 (byteAt v k) = s % 256 := by
  intro s hs
  rw [hs]
  have e : wu8 s = s % 256 := by unfold wu8; rw [IntKind.wrap_u8]
  rw [e, i8_b8 (by omega) (by omega)]
 have h3 : k = 0 ∨ k = 1 ∨ k = 2 ∨ k = 3 := by omega
 rcases h3 with rfl | rfl | rfl | rfl
 ·refine key (v / 256 ^ 0) (congrArg (fun s => b8 (wu8 s)) ?_)
  rw [wi64_of (by omega) (by omega)]
  show v.fdiv 1 = v / 1
  rw [Int.fdiv_eq_ediv_of_nonneg _ (by omega)]
 ·refine key (v / 256 ^ 1) (congrArg (fun s => b8 (wu8 s)) ?_)
  rw [wi64_of (by omega) (by omega)]
  show v.fdiv 256 = v / 256
  rw [Int.fdiv_eq_ediv_of_nonneg _ (by omega)]
 ·refine key (v / 256 ^ 2) (congrArg (fun s => b8 (wu8 s)) ?_)
  rw [wi64_of (by omega) (by omega)]
  show v.fdiv 65536 = v / 65536
  rw [Int.fdiv_eq_ediv_of_nonneg _ (by omega)]
 ·refine key (v / 256 ^ 3) (congrArg (fun s => b8 (wu8 s)) ?_)
  rw [wi64_of (by omega) (by omega)]
  show v.fdiv 16777216 = v / 16777216
  rw [Int.fdiv_eq_ediv_of_nonneg _ (by omega)]
theorem val_be1 {v : Int} (h : 0 ≤ v) (h2 : v < 256) : val (be 1 v) = v := by
 have e0 := i8_byteAt h 0 (by omega)
 show 0 * 256 + i8 (byteAt v 0) = v
 rw [e0]
 have : (256 : Int) ^ 0 = 1 := rfl
 rw [this]
 omega
theorem val_be4 {v : Int} (h : 0 ≤ v) (h2 : v < 4294967296) : val (be 4 v) = v := by
 have e0 := i8_byteAt h 0 (by omega)
 have e1 := i8_byteAt h 1 (by omega)
 have e2 := i8_byteAt h 2 (by omega)
 have e3 := i8_byteAt h 3 (by omega)
 show (((0 * 256 + i8 (byteAt v 3)) * 256 + i8 (byteAt v 2)) * 256 + i8 (byteAt v 1)) * 256 + i8 (byteAt v 0) = v
 rw [e0, e1, e2, e3]
 have h0 : (256 : Int) ^ 0 = 1 := rfl
 have h1 : (256 : Int) ^ 1 = 256 := rfl
 have h2 : (256 : Int) ^ 2 = 65536 := rfl
 have h3 : (256 : Int) ^ 3 = 16777216 := rfl
 rw [h0, h1, h2, h3]
 omega
theorem num_be {k : Nat} {v : Int} (h : val (be k v) = v) (s : List UInt8) : num k (be k v ++ s) = some (v, s) := by
 unfold num
 have e : (be k v).length = k := be_len k v
 rw [if_neg (by rw [List.length_append]; omega)]
 have h1 : (be k v ++ s).take k = be k v := by rw [List.take_append_of_le_length (by omega), List.take_of_length_le (by omega)]
 have h2 : (be k v ++ s).drop k = s := by rw [List.drop_append_of_le_length (by omega), List.drop_of_length_le (by omega)]; rfl
 rw [h1, h2, h]
theorem num1 {v : Int} (h : 0 ≤ v) (h2 : v < 256) (s : List UInt8) : num 1 (be 1 v ++ s) = some (v, s) := num_be (val_be1 h h2) s
theorem num4 {v : Int} (h : 0 ≤ v) (h2 : v < 4294967296) (s : List UInt8) : num 4 (be 4 v ++ s) = some (v, s) := num_be (val_be4 h h2) s
theorem text_txt (t s : List UInt8) (h : t.length ≤ 255) : text (txt t ++ s) = some (t, s) := by
 show text (b8 (t.length : Int) :: (t ++ s)) = _
 have e : (b8 (t.length : Int)).toNat = t.length := by
  have := i8_b8 (n := (t.length : Int)) (by omega) (by omega)
  unfold i8 at this
  omega
 rw [text_cons, e, if_neg (by rw [List.length_append]; omega), List.take_append_of_le_length (by omega), List.take_of_length_le (by omega), List.drop_append_of_le_length (by omega), List.drop_of_length_le (by omega)]
 rfl
theorem pTell_body {t : TTell} (h : msg_MayTell t = true) (s : List UInt8) : pTell (bodyTell t ++ s) = some (t, s) := by
 obtain ⟨h1, h2, h3, h4, h5, h6, h7, h8, h9⟩ := mayTell_of h
 have e : bodyTell t ++ s = be 1 t.Kind ++ (be 1 t.To ++ (be 4 t.Epoch ++ (be 4 t.Seq ++ (be 1 t.Err ++ (be 1 t.File ++ (be 1 t.Mode ++ (be 4 t.Ver ++ (txt t.Body ++ s)))))))) := by
  simp only [bodyTell, List.append_assoc]
 unfold pTell
 rw [e, num1 (by omega) (by omega), some_bind, num1 (by omega) (by omega), some_bind, num4 (by omega) (by omega), some_bind, num4 (by omega) (by omega), some_bind, num1 (by omega) (by omega), some_bind, num1 (by omega) (by omega), some_bind, num1 (by omega) (by omega), some_bind, num4 (by omega) (by omega), some_bind, text_txt _ _ (by omega), some_bind]
theorem putTell_yes {t : TTell} (h : msg_MayTell t = true) : putTell t = bodyTell t ++ be 2 (crcN (bodyTell t) : Int) := by unfold putTell; rw [h]; rfl
theorem takeTell_put {a : TTell} (h : msg_MayTell a = true) : takeTell (putTell a) = (a, true) := by
 unfold takeTell
 rw [putTell_yes h, pTell_body h]
 simp only []
 rw [putTell_yes h, beq_self_eq_true]
 rfl
theorem takeTell_true {z : List UInt8} (h : (takeTell z).2 = true) : ∃ x r, pTell z = some (x, r) ∧ z = putTell x ∧ msg_MayTell x = true := by
 unfold takeTell at h
 cases hp : pTell z with
 | none => rw [hp] at h; cases h
 | some p =>
  obtain ⟨x, r⟩ := p
  simp only [hp] at h
  cases he : putTell x == z with
  | false => rw [he] at h; cases h
  | true =>
   have e := (eq_of_beq he).symm
   refine ⟨x, r, rfl, e, ?_⟩
   cases hm : msg_MayTell x with
   | true => rfl
   | false => exact absurd (e.trans (putTell_no hm)) (pTell_parts hp)
open Go
theorem iter_inv {V X : Type} {step : V → Option (V ⊕ X)} (I : Nat → V → Prop) (Q : X → Prop)
  (h : ∀ k v, I k v → ∃ o, step v = some o ∧ Sum.elim (fun v' => ∃ k', k' < k ∧ I k' v') Q o) :
  ∀ (k : Nat) (v : V) (n : Nat), I k v → k < n → ∃ x, iter step n v = some x ∧ Q x := by
 intro k
 induction k using Nat.strongRecOn with
 | _ k ih =>
  intro v n hi hn
  obtain ⟨o, ho, hq⟩ := h k v hi
  cases n with
  | zero => omega
  | succ n =>
   rw [iter_succ, ho]
   cases o with
   | inl v' =>
    obtain ⟨k', h1, h2⟩ := hq
    exact ih k' h1 v' n h2 (by omega)
   | inr x => exact ⟨x, rfl, hq⟩
theorem beq_of {α : Type} [BEq α] [LawfulBEq α] {a b : α} (h : a = b) : (a == b) = true := by rw [h]; exact beq_self_eq_true b
theorem beq_ne {α : Type} [BEq α] [LawfulBEq α] {a b : α} (h : a ≠ b) : (a == b) = false := by
 cases hb : a == b with
 | false => rfl
 | true => exact absurd (eq_of_beq hb) h
open Go
def Okt {α : Type} (t : D.Tree α) (Q : α → Prop) : Prop := ∃ r, t.get = some r ∧ Q r
theorem okt_ret {α : Type} {Q : α → Prop} {a : α} (h : Q a) : Okt (.ret a) Q := ⟨a, rfl, h⟩
theorem okt_ite {α : Type} {Q : α → Prop} {c : Bool} {t e : D.Tree α} (h1 : c = true → Okt t Q) (h2 : c = false → Okt e Q) : Okt (.ite c t e) Q := by
 cases c
 ·obtain ⟨r, a, b⟩ := h2 rfl; exact ⟨r, a, b⟩
 ·obtain ⟨r, a, b⟩ := h1 rfl; exact ⟨r, a, b⟩
theorem okt_t {α : Type} {Q : α → Prop} {c : Bool} {t e : D.Tree α} (hc : c = true) (h : Okt t Q) : Okt (.ite c t e) Q := by subst hc; obtain ⟨r, a, b⟩ := h; exact ⟨r, a, b⟩
theorem okt_f {α : Type} {Q : α → Prop} {c : Bool} {t e : D.Tree α} (hc : c = false) (h : Okt e Q) : Okt (.ite c t e) Q := by subst hc; obtain ⟨r, a, b⟩ := h; exact ⟨r, a, b⟩
theorem okt_opt {α β : Type} {Q : α → Prop} {o : Option β} {g : β → D.Tree α} {x : β} (h : o = some x) (h2 : Okt (g x) Q) : Okt (.opt o g) Q := by
 subst h; obtain ⟨r, a, b⟩ := h2; exact ⟨r, a, b⟩
theorem okt_optE {α β : Type} {P : β → Prop} {Q : α → Prop} {o : Option β} {g : β → D.Tree α} (h : ∃ x, o = some x ∧ P x) (h2 : ∀ x, P x → Okt (g x) Q) : Okt (.opt o g) Q := by
 obtain ⟨x, h, p⟩ := h; exact okt_opt h (h2 x p)
theorem MayW_iff {w : TWrite} : file_May w = true → 0 ≤ w.Off ∧ 1 ≤ w.B.length ∧ w.Off + w.B.length ≤ 24 := by
 intro h; have := file_May_iff.1 h; omega
def putW (b : List UInt8) (w : TWrite) : List UInt8 :=
 if file_May w = true then ((b ++ List.replicate (w.Off.toNat - b.length) 0).take w.Off.toNat ++ w.B) ++ b.drop (w.Off.toNat + w.B.length) else b
def allW (b : List UInt8) (l : List TWrite) : List UInt8 := l.foldl putW b
theorem putW_len (b : List UInt8) (w : TWrite) (hb : b.length ≤ 24) : (putW b w).length ≤ 24 := by
 unfold putW
 split
 ·rename_i h
  obtain ⟨h0, h1, h2⟩ := MayW_iff h
  simp only [List.length_append, List.length_take, List.length_replicate, List.length_drop]
  omega
 ·exact hb
theorem allW_len : ∀ (l : List TWrite) (b : List UInt8), b.length ≤ 24 → (allW b l).length ≤ 24
 | [], b, hb => hb
 | w :: l, b, hb => allW_len l (putW b w) (putW_len b w hb)
theorem file_Put_ok (b : List UInt8) (w : TWrite) (hb : b.length ≤ 24) : file_Put b w = some (putW b w) := by
 unfold file_Put file_Put_t putW
 cases h : file_May w with
 | false => rfl
 | true =>
  obtain ⟨h0, h1, h2⟩ := MayW_iff h
  simp only [get_ite, get_ret, get_fail, Bool.not_true, cond_false, if_true]
  obtain ⟨n, hn⟩ : ∃ n : Nat, w.Off = (n : Int) := ⟨w.Off.toNat, by omega⟩
  rw [hn, wi64_of (show -9223372036854775808 ≤ (n : Int) - (b.length : Int) by omega) (by omega), wi64_of (show -9223372036854775808 ≤ (n : Int) + (w.B.length : Int) by omega) (by omega), Int.toNat_natCast]
  have rep : ∀ m : Int, m.toNat = n - b.length → repL ([0] : List UInt8) m = List.replicate (n - b.length) 0 := fun m hm => by
   unfold repL; rw [hm]; simp
  by_cases hc : (n : Int) - (b.length : Int) > 0
  ·have e := rep ((n : Int) - (b.length : Int)) (by omega)
   rw [decide_eq_true hc, cond_true, e]
   have hl : (b ++ List.replicate (n - b.length) (0 : UInt8)).length = n := by simp; omega
   rw [show repOk ([0] : List UInt8) ((n : Int) - (b.length : Int)) = true by unfold repOk; simp [lim_eq]; omega, cond_true]
   have hmin : imin ((n : Int) + (w.B.length : Int)) ((b ++ List.replicate (n - b.length) (0 : UInt8)).length : Int) = (n : Int) := by
    rw [hl]; unfold imin; rw [if_pos (by omega)]
   rw [hmin, hl, cutOk_of (by omega) (by omega) (by omega), cond_true, cutOk_of (by omega) (by omega) (Int.le_refl _)]
   rw [cut_front]
   have hz : cutL (b ++ List.replicate (n - b.length) (0 : UInt8)) (n : Int) (n : Int) = [] := by
    unfold cutL; apply List.drop_eq_nil_of_le; simp; omega
   rw [hz]
   have hd : b.drop (n + w.B.length) = [] := List.drop_eq_nil_of_le (by omega)
   rw [hd]
   simp only [List.length_append, List.length_replicate, List.length_take, List.length_nil]
   rw [decide_eq_true (show b.length + (n - b.length) ≤ lim by rw [lim_eq]; omega), cond_true]
   rw [decide_eq_true (show min n (b.length + (n - b.length)) + w.B.length ≤ lim by rw [lim_eq]; omega), cond_true, cond_true]
   rw [decide_eq_true (show min n (b.length + (n - b.length)) + w.B.length + 0 ≤ lim by rw [lim_eq]; omega), cond_true]
  ·rw [decide_eq_false hc, cond_false]
   have e : n - b.length = 0 := by omega
   rw [e, List.replicate_zero, List.append_nil]
   rw [cutOk_of (by omega) (by omega) (by omega), cond_true, cut_front]
   have hcut : cutL b (imin ((n : Int) + (w.B.length : Int)) (b.length : Int)) (b.length : Int) = b.drop (n + w.B.length) := by
    unfold imin
    split
    ·rw [cut_back]; rw [List.drop_eq_nil_of_le (Nat.le_refl _), List.drop_eq_nil_of_le (by omega)]
    ·have : (n : Int) + (w.B.length : Int) = ((n + w.B.length : Nat) : Int) := by omega
     rw [this, cut_back]
   have h3 : 0 ≤ imin ((n : Int) + (w.B.length : Int)) (b.length : Int) ∧ imin ((n : Int) + (w.B.length : Int)) (b.length : Int) ≤ (b.length : Int) := by
    unfold imin; split <;> omega
   rw [cutOk_of h3.1 h3.2 (by omega), cond_true, hcut]
   simp only [List.length_append, List.length_take, List.length_drop]
   rw [decide_eq_true (show min n b.length + w.B.length ≤ lim by rw [lim_eq]; omega), cond_true]
   rw [decide_eq_true (show min n b.length + w.B.length + (b.length - (n + w.B.length)) ≤ lim by rw [lim_eq]; omega), cond_true]
theorem file_All_ok (l : List TWrite) (b : List UInt8) (hl : l.length ≤ 1000) (hb : b.length ≤ 24) : file_All fuel b l = some (allW b l) := by
 unfold file_All file_All_t file_All_l0
 simp only [get_opt, get_ret]
 obtain ⟨x, e, hx⟩ := iter_inv (step := file_All_s0 l (l.length : Int)) (fun k v => ∃ i : Nat, v.2 = (i : Int) ∧ i + k = l.length ∧ v.1.length ≤ 24 ∧ allW v.1 (l.drop i) = allW b l) (fun r => r = allW b l) (fun k v hI => by
  obtain ⟨v1, v2⟩ := v
  obtain ⟨i, hi, hk, hlen, he⟩ := hI
  simp only at hi hlen he
  subst hi
  simp only [file_All_s0, file_All_s0t, get_ite, get_opt, get_ret, get_fail]
  by_cases hlt : i < l.length
  ·rw [lt_dec hlt, inR_nat hlt, Int.toNat_natCast, List.getElem?_eq_getElem hlt, some_bind, file_Put_ok v1 _ hlen, some_bind, wi64_succ (by omega)]
   refine ⟨_, rfl, k - 1, by omega, i + 1, rfl, by omega, putW_len _ _ hlen, ?_⟩
   rw [← he, List.drop_eq_getElem_cons hlt]; rfl
  ·obtain rfl : i = l.length := by omega
   rw [ge_dec]
   refine ⟨_, rfl, ?_⟩
   rw [← he, List.drop_length]; rfl) l.length (b, 0) fuel ⟨0, rfl, by omega, hb, rfl⟩ (fuel_gt (by omega))
 rw [e, some_bind, hx]
open Go
def mapTo {α : Type} (f : α → α) (xs : List α) (i : Nat) : List α := (xs.take i).map f ++ xs.drop i
theorem mapTo_len {α : Type} (f : α → α) (xs : List α) (i : Nat) : (mapTo f xs i).length = xs.length := by
 unfold mapTo; simp; omega
theorem mapTo_zero {α : Type} (f : α → α) (xs : List α) : mapTo f xs 0 = xs := rfl
theorem mapTo_end {α : Type} (f : α → α) (xs : List α) : mapTo f xs xs.length = xs.map f := by unfold mapTo; simp
theorem mapTo_at {α : Type} (f : α → α) (xs : List α) {i : Nat} {a : α} (h : xs[i]? = some a) : (mapTo f xs i)[i]? = some a := by
 have hi := at_of h
 unfold mapTo
 rw [List.getElem?_append_right (by simp; omega)]
 simp only [List.length_map, List.length_take, List.getElem?_drop]
 rw [show i + (i - min i xs.length) = i by omega, h]
theorem mapTo_set {α : Type} (f : α → α) (xs : List α) {i : Nat} {a : α} (h : xs[i]? = some a) : (mapTo f xs i).set i (f a) = mapTo f xs (i + 1) := by
 have hi := at_of h
 have ha : xs[i] = a := (List.getElem?_eq_some_iff.1 h).2
 unfold mapTo
 rw [List.set_append_right _ _ (by simp; omega)]
 simp only [List.length_map, List.length_take]
 rw [show i - min i xs.length = 0 by omega, List.drop_eq_getElem_cons hi, List.set_cons_zero, List.take_succ_eq_append_getElem hi, List.map_append, ha]
 simp
def noCache : TCache := ⟨0, 0, 0, [], [], 0, false, false⟩
def noOut : TOut := ⟨false, ⟨0, 0, 0, 0, [], 0, 0, []⟩, 0, 0⟩
@[reducible] def Out3 : Type := TClient × TAns × List TAsk
def fileAt (c : TClient) (n : Int) : TCache := (c.Files[(n - 1).toNat]?).getD noCache
def setF (c : TClient) (n : Int) (x : TCache) : TClient := { c with Files := c.Files.set (n - 1).toNat x }
def stamp (c : TClient) (a : TAsk) : TAsk := { a with From := c.ID, Epoch := c.Epoch, Seq := wi64 (c.Seq + 1) }
def askS (c : TClient) (a : TAsk) : Out3 := ({ c with Seq := wi64 (c.Seq + 1), Out := ⟨true, stamp c a, c.Now, c.Now⟩, Asks := wi64 (c.Asks + 1) }, ⟨5, 0, []⟩, [stamp c a])
def sayS (c : TClient) (e : Int) : Out3 := (c, ⟨e, 0, []⟩, [])
def givesS (c : TClient) (n : Int) : Out3 := (setF (askS c ⟨4, 0, 0, 0, [], n, 0, (fileAt c n).Dirty⟩).1 n { noCache with Lost := (fileAt c n).Lost }, (askS c ⟨4, 0, 0, 0, [], n, 0, (fileAt c n).Dirty⟩).2)
def flushS (c : TClient) (n : Int) : Out3 := askS (setF c n { fileAt c n with Sent := ((fileAt c n).Dirty.length : Int) }) ⟨3, 0, 0, 0, [], n, 0, (fileAt c n).Dirty⟩
def lapseS (c : TClient) : TClient := { c with Files := c.Files.map fun f => cache_Lapse f c.Now }
def findS (l : List (List UInt8)) (s : List UInt8) : Option Nat := l.findIdx? (s == ·)
def opensS (c : TClient) (s : List UInt8) : Out3 :=
 if mayName s = false then sayS c 1 else
 match findS c.Names s with
 | some i => (c, ⟨0, (i : Int) + 1, []⟩, [])
 | none => if c.Out.Is = true then sayS c 4 else askS c ⟨1, 0, 0, 0, s, 0, 0, []⟩
def readsS (c : TClient) (n : Int) : Out3 :=
 if cache_Valid (fileAt c n) c.Now ≠ 0 then ({ c with Hits := wi64 (c.Hits + 1) }, ⟨0, 0, allW (fileAt c n).Body (fileAt c n).Dirty⟩, [])
 else if c.Out.Is = true then sayS c 4 else askS c ⟨2, 0, 0, 0, [], n, 1, []⟩
def bufOk (x : TCache) (w : TWrite) : Bool := decide (x.Dirty.length < 5) && (x.Mode == 2) && file_May w
def writesS (c : TClient) (n : Int) (w : TWrite) : Out3 :=
 if cache_Valid (fileAt c n) c.Now = 2 ∧ (fileAt c n).Called = false ∧ bufOk (fileAt c n) w = true then
  ({ setF c n { fileAt c n with Dirty := (fileAt c n).Dirty ++ [w] } with Hits := wi64 (c.Hits + 1) }, ⟨0, 0, []⟩, [])
 else if c.Out.Is = true then sayS c 4
 else if cache_Valid (fileAt c n) c.Now ≠ 2 then askS c ⟨2, 0, 0, 0, [], n, 2, []⟩
 else if (fileAt c n).Called = true then givesS c n
 else flushS c n
def syncsS (c : TClient) (n : Int) : Out3 :=
 if c.Out.Is = true ∧ c.Out.Ask.Kind = 4 ∧ c.Out.Ask.File = n ∧ c.Out.Ask.Writes ≠ [] then sayS c 4
 else if (fileAt c n).Dirty = [] then sayS c 0
 else if c.Out.Is = true then sayS c 4 else flushS c n
def dropsS (c : TClient) (n : Int) : Out3 :=
 if (fileAt c n).Mode = 0 then sayS c 0 else if c.Out.Is = true then sayS c 4 else givesS c n
def endsS (c : TClient) (n : Int) : Out3 :=
 if c.Out.Is = true then sayS c 4
 else if (fileAt c n).Dirty ≠ [] then sayS c 4
 else askS (setF c n (cache_Reset (fileAt c n))) ⟨5, 0, 0, 0, [], n, 0, []⟩
def stepS (c : TClient) (s : TStep) : Out3 :=
 if s.Kind < 3 ∨ 8 < s.Kind then sayS c 1
 else if s.Kind = 3 then opensS c s.Text
 else if s.File < 1 ∨ 6 < s.File then sayS c 1
 else if s.Kind = 5 ∧ file_May ⟨s.Off, s.Text⟩ = false then sayS c 1
 else if (fileAt c s.File).Lost = true ∧ s.Kind ≠ 8 then sayS (setF c s.File { fileAt c s.File with Lost := false }) 6
 else if s.Kind = 4 then readsS c s.File
 else if s.Kind = 5 then writesS c s.File ⟨s.Off, s.Text⟩
 else if s.Kind = 6 then syncsS c s.File
 else if s.Kind = 7 then dropsS c s.File
 else endsS c s.File
def doS (c : TClient) (s : TStep) : Out3 := stepS (lapseS c) s
structure Shape (c : TClient) : Prop where
 files : c.Files.length = 6
 names : c.Names.length = 6
 out : c.Out.Is = false → c.Out = noOut
 dirty : ∀ f ∈ c.Files, f.Dirty.length ≤ 1000
 body : ∀ f ∈ c.Files, f.Body.length ≤ 24
 asked : c.Out.Ask.Writes.length ≤ 1000
 until_ : ∀ f ∈ c.Files, 0 ≤ f.Until ∧ f.Until ≤ 9223372036854775807
 name : ∀ s ∈ c.Names, s.length ≤ 8
theorem fileAt_some {c : TClient} {n : Int} (h : c.Files.length = 6) (h1 : 1 ≤ n) (h6 : n ≤ 6) : c.Files[(n - 1).toNat]? = some (fileAt c n) := by
 unfold fileAt
 rw [List.getElem?_eq_getElem (show (n - 1).toNat < c.Files.length by omega)]; rfl
theorem fileAt_mem {c : TClient} {n : Int} (h : c.Files.length = 6) (h1 : 1 ≤ n) (h6 : n ≤ 6) : fileAt c n ∈ c.Files := List.mem_of_getElem? (fileAt_some h h1 h6)
@[reducible] def Wk (c : TClient) : Tclient_work := ⟨c, []⟩
def eW (w : Tclient_work) : Out3 := (w.Client, ⟨5, 0, []⟩, w.asked)
def eN (w : Tclient_work) : Out3 := (w.Client, ⟨5, 0, []⟩, [])
def eT (p : Tclient_told × Tclient_work) : Out3 := (p.2.Client, p.1.a, [])
def er4 : Tclient_work ⊕ (Tclient_work ⊕ ((Tclient_told × Tclient_work) ⊕ (Tclient_told × Tclient_work))) → Out3
 | .inl w => eW w
 | .inr (.inl w) => eW w
 | .inr (.inr (.inl p)) => eT p
 | .inr (.inr (.inr p)) => eT p
theorem of_ok (c : TClient) (h : c.Files.length < 1000) : client_of fuel c = some (Wk (lapseS c)) := by
 unfold client_of client_of_t client_of_l0
 simp only [get_opt, get_ret]
 obtain ⟨x, e, hx⟩ := iter_inv (step := client_of_s0 (c.Files.length : Int) c) (fun k v => ∃ i : Nat, v.1 = (i : Int) ∧ i + k = c.Files.length ∧ v.2 = Wk { c with Files := mapTo (fun f => cache_Lapse f c.Now) c.Files i }) (fun r => r = Wk (lapseS c)) (fun k v hI => by
  obtain ⟨v1, v2⟩ := v
  obtain ⟨i, hi, hk, he⟩ := hI
  simp only at hi he
  subst hi he
  simp only [client_of_s0, client_of_s0t, get_ite, get_opt, get_ret, get_fail, mapTo_len]
  by_cases hlt : i < c.Files.length
  ·have ha := List.getElem?_eq_getElem hlt
   rw [lt_dec hlt, inR_nat hlt, Int.toNat_natCast, mapTo_at _ _ ha, some_bind, mapTo_set (fun f => cache_Lapse f c.Now) _ ha, wi64_succ (by omega)]
   exact ⟨_, rfl, k - 1, by omega, i + 1, rfl, by omega, rfl⟩
  ·obtain rfl : i = c.Files.length := by omega
   rw [ge_dec]
   refine ⟨_, rfl, ?_⟩
   rw [mapTo_end]; rfl) c.Files.length (0, Wk c) fuel ⟨0, rfl, by omega, by rw [mapTo_zero]⟩ (fuel_gt (by omega))
 rw [e, some_bind, hx]
section
variable {c : TClient} {n : Int}
theorem file_ok (h : c.Files.length = 6) (h1 : 1 ≤ n) (h6 : n ≤ 6) (l : List TAsk) : client_work_file n ⟨c, l⟩ = some (.inl (n - 1).toNat) ∧ client_work_file_2 n ⟨c, l⟩ = some (.inl (n - 1).toNat) ∧ client_work_file_3 n ⟨c, l⟩ = some (.inl (n - 1).toNat) := by
 unfold client_work_file client_work_file_2 client_work_file_3 client_work_file_t client_work_file_2_t client_work_file_3_t
 simp only [get_ite, get_ret, get_fail]
 rw [decide_eq_false (show ¬ n < 1 by omega), decide_eq_false (show ¬ n > (c.Files.length : Int) by omega), wi64_of (by omega) (by omega), inR_of (by omega) (by omega)]
 exact ⟨rfl, rfl, rfl⟩
theorem free_ok (l : List TAsk) : client_work_free ⟨c, l⟩ = some (bif c.Out.Is then .inr ⟨⟨4, 0, []⟩⟩ else .inl ()) ∧ client_work_free_2 ⟨c, l⟩ = some (bif c.Out.Is then .inr ⟨⟨4, 0, []⟩⟩ else .inl ()) := by
 unfold client_work_free client_work_free_2 client_work_free_t client_work_free_2_t
 simp only [get_ite, get_ret]
 cases c.Out.Is <;> exact ⟨rfl, rfl⟩
theorem asks_ok (a : TAsk) (l : List TAsk) : client_work_asks a ⟨c, l⟩ = ⟨(askS c a).1, (askS c a).2.2⟩ ∧ client_work_asks_2 a ⟨c, l⟩ = ⟨(askS c a).1, (askS c a).2.2⟩ := ⟨rfl, rfl⟩
theorem says_ok (e : Int) (l : List TAsk) : client_work_says e ⟨c, l⟩ = ⟨⟨e, 0, []⟩⟩ ∧ client_work_says_2 e ⟨c, l⟩ = ⟨⟨e, 0, []⟩⟩ := ⟨rfl, rfl⟩
theorem view_ok {x : TCache} (hd : x.Dirty.length ≤ 1000) (hb : x.Body.length ≤ 24) : cache_View fuel x = some (allW x.Body x.Dirty) := by
 unfold cache_View cache_View_t
 simp only [get_opt, get_ret]
 rw [file_All_ok _ _ hd hb]; rfl
theorem reads_ok (S : Shape c) (h1 : 1 ≤ n) (h6 : n ≤ 6) : ∃ s, client_work_reads fuel n (Wk c) = some s ∧ er4 s = readsS c n := by
 have hx := fileAt_some S.files h1 h6
 have hm := fileAt_mem S.files h1 h6
 unfold client_work_reads client_work_reads_t readsS
 simp only [get_opt, get_ite, get_ret, get_altT, (file_ok S.files h1 h6 _).2.1, some_bind, alt_inl, hx, view_ok (S.dirty _ hm) (S.body _ hm), (free_ok _).2]
 by_cases hv : cache_Valid (fileAt c n) c.Now = 0
 ·rw [hv, if_neg (by simp)]
  cases hi : c.Out.Is with
  | true => exact ⟨_, rfl, rfl⟩
  | false => exact ⟨_, rfl, rfl⟩
 ·rw [if_pos hv, show (cache_Valid (fileAt c n) c.Now != 0) = true by simp [hv]]
  exact ⟨_, rfl, rfl⟩
theorem gives_ok (S : Shape c) (h1 : 1 ≤ n) (h6 : n ≤ 6) (l : List TAsk) : client_work_gives n ⟨c, l⟩ = some (.inl ⟨(givesS c n).1, (givesS c n).2.2⟩) ∧ client_work_gives_2 n ⟨c, l⟩ = some (.inl ⟨(givesS c n).1, (givesS c n).2.2⟩) := by
 have hx := fileAt_some S.files h1 h6
 have hl : (n - 1).toNat < c.Files.length := at_of hx
 have hr : ∀ x : TCache, cache_Reset x = { noCache with Lost := (cache_Reset x).Lost } := fun x => by
  unfold cache_Reset cache_Reset_t; simp only [val_ite, val_ret]; cases x.Lost <;> rfl
 unfold client_work_gives client_work_gives_2 client_work_gives_t client_work_gives_2_t
 simp only [get_opt, get_ite, get_ret, get_altT, (file_ok S.files h1 h6 _).1, (file_ok S.files h1 h6 _).2.1, some_bind, alt_inl, hx, (asks_ok _ _).2]
 have h2 : ∀ a : TAsk, (askS c a).1.Files = c.Files := fun _ => rfl
 simp only [h2, hx, some_bind, List.getElem?_set, if_pos hl, List.set_set]
 rw [if_pos trivial, some_bind, hr (fileAt c n)]
 exact ⟨rfl, rfl⟩
theorem flushes_ok (S : Shape c) (h1 : 1 ≤ n) (h6 : n ≤ 6) (l : List TAsk) : client_work_flushes n ⟨c, l⟩ = some (.inl ⟨(flushS c n).1, (flushS c n).2.2⟩) := by
 have hx := fileAt_some S.files h1 h6
 have hl : (n - 1).toNat < c.Files.length := at_of hx
 unfold client_work_flushes client_work_flushes_t
 simp only [get_opt, get_ite, get_ret, get_altT, (file_ok S.files h1 h6 _).2.1, some_bind, alt_inl, hx, (asks_ok _ _).2]
 simp only [List.getElem?_set, if_pos hl]
 rw [if_pos trivial, some_bind]
 rfl
end
open Go
def er3 : Tclient_work ⊕ (Tclient_work ⊕ (Tclient_told × Tclient_work)) → Out3
 | .inl w => eW w
 | .inr (.inl w) => eW w
 | .inr (.inr p) => eT p
def erO : Tclient_work ⊕ (Tclient_told × Tclient_work) → Out3
 | .inl w => eW w
 | .inr p => eT p
def er7 : Tclient_work ⊕ (Tclient_work ⊕ (Tclient_work ⊕ (Tclient_work ⊕ ((Tclient_told × Tclient_work) ⊕ ((Tclient_told × Tclient_work) ⊕ (Tclient_told × Tclient_work)))))) → Out3
 | .inl w => eW w
 | .inr (.inl w) => eW w
 | .inr (.inr (.inl w)) => eW w
 | .inr (.inr (.inr (.inl w))) => eW w
 | .inr (.inr (.inr (.inr (.inl p)))) => eT p
 | .inr (.inr (.inr (.inr (.inr (.inl p))))) => eT p
 | .inr (.inr (.inr (.inr (.inr (.inr p))))) => eT p
theorem buffer_ok (x : TCache) (w : TWrite) (h : x.Dirty.length ≤ 1000) : cache_Buffer x w = some (if bufOk x w = true then ({ x with Dirty := x.Dirty ++ [w] }, true) else (x, false)) := by
 unfold cache_Buffer cache_Buffer_t bufOk
 simp only [get_ite, get_ret, get_fail]
 by_cases h5 : x.Dirty.length < 5
 ·rw [decide_eq_false (show ¬ (x.Dirty.length : Int) ≥ 5 by omega), decide_eq_true h5, decide_eq_true (show x.Dirty.length + 1 ≤ lim by rw [lim_eq]; omega)]
  by_cases hm : x.Mode = 2
  ·rw [hm]
   cases file_May w <;> rfl
  ·rw [show (x.Mode != 2) = true by simp [hm], show (x.Mode == 2) = false by simp [hm]]
   rfl
 ·rw [decide_eq_true (show (x.Dirty.length : Int) ≥ 5 by omega), decide_eq_false h5]
  rfl
theorem writes_ok {c : TClient} {n : Int} (S : Shape c) (h1 : 1 ≤ n) (h6 : n ≤ 6) (x : TWrite) : ∃ s, client_work_writes n x (Wk c) = some s ∧ er7 s = writesS c n x := by
 have hx := fileAt_some S.files h1 h6
 have hm := fileAt_mem S.files h1 h6
 unfold client_work_writes client_work_writes_t writesS
 simp only [get_opt, get_ite, get_ret, get_altT, (file_ok S.files h1 h6 _).2.1, some_bind, alt_inl, hx, buffer_ok _ x (S.dirty _ hm), (free_ok _).2, (says_ok _ _).2, (gives_ok S h1 h6 _).1, flushes_ok S h1 h6]
 by_cases hv : cache_Valid (fileAt c n) c.Now = 2
 ·rw [hv]
  by_cases hb : bufOk (fileAt c n) x = true
  ·rw [if_pos hb]
   cases hc : (fileAt c n).Called with
   | false => rw [if_pos ⟨rfl, rfl, hb⟩]; exact ⟨_, rfl, rfl⟩
   | true =>
    rw [if_neg (by simp)]
    cases hi : c.Out.Is with
    | true => exact ⟨_, rfl, rfl⟩
    | false => rw [if_neg (by simp), if_neg (by simp), if_pos rfl]; exact ⟨_, rfl, rfl⟩
  ·rw [if_neg hb, if_neg (by simp [hb])]
   cases hc : (fileAt c n).Called with
   | false =>
    cases hi : c.Out.Is with
    | true => exact ⟨_, rfl, rfl⟩
    | false => rw [if_neg (by simp), if_neg (by simp), if_neg (by simp)]; exact ⟨_, rfl, rfl⟩
   | true =>
    cases hi : c.Out.Is with
    | true => exact ⟨_, rfl, rfl⟩
    | false => rw [if_neg (by simp), if_neg (by simp), if_pos rfl]; exact ⟨_, rfl, rfl⟩
 ·rw [show (cache_Valid (fileAt c n) c.Now == 2) = false by simp [hv], if_neg (show ¬ (cache_Valid (fileAt c n) c.Now = 2 ∧ (fileAt c n).Called = false ∧ bufOk (fileAt c n) x = true) from fun h => hv h.1)]
  cases hi : c.Out.Is with
  | true => exact ⟨_, rfl, rfl⟩
  | false => rw [if_neg (show ¬ (false = true) by simp), if_pos hv]; exact ⟨_, rfl, rfl⟩
theorem len_eqz {α : Type} (l : List α) : ((l.length : Int) == 0) = decide (l = []) := by
 cases l with
 | nil => rfl
 | cons a r => simp <;> omega
theorem len_gtz {α : Type} (l : List α) : decide ((l.length : Int) > 0) = !decide (l = []) := by
 cases l with
 | nil => rfl
 | cons a r => simp <;> omega
theorem syncs_ok {c : TClient} {n : Int} (S : Shape c) (h1 : 1 ≤ n) (h6 : n ≤ 6) : ∃ s, client_work_syncs n (Wk c) = some s ∧ er4 s = syncsS c n := by
 have hx := fileAt_some S.files h1 h6
 unfold client_work_syncs client_work_syncs_t syncsS
 simp only [get_opt, get_ite, get_ret, get_altT, (file_ok S.files h1 h6 _).2.1, some_bind, alt_inl, hx, (free_ok _).2, (says_ok _ _).2, flushes_ok S h1 h6, len_eqz, len_gtz]
 cases hi : c.Out.Is with
 | false =>
  rw [if_neg (by simp)]
  by_cases hd : (fileAt c n).Dirty = []
  ·rw [if_pos hd, decide_eq_true hd]; exact ⟨_, rfl, rfl⟩
  ·rw [if_neg hd, decide_eq_false hd]; exact ⟨_, rfl, rfl⟩
 | true =>
  by_cases hk : c.Out.Ask.Kind = 4
  ·by_cases hf : c.Out.Ask.File = n
   ·by_cases hw : c.Out.Ask.Writes = []
    ·rw [if_neg (by simp [hw]), decide_eq_true hw, beq_of hk, beq_of hf]
     by_cases hd : (fileAt c n).Dirty = []
     ·rw [if_pos hd, decide_eq_true hd]; exact ⟨_, rfl, rfl⟩
     ·rw [if_neg hd, decide_eq_false hd]; exact ⟨_, rfl, rfl⟩
    ·rw [if_pos ⟨rfl, hk, hf, hw⟩, decide_eq_false hw, beq_of hk, beq_of hf]
     exact ⟨_, rfl, rfl⟩
   ·rw [if_neg (by simp [hf]), beq_of hk, beq_ne hf]
    by_cases hd : (fileAt c n).Dirty = []
    ·rw [if_pos hd, decide_eq_true hd]; exact ⟨_, rfl, rfl⟩
    ·rw [if_neg hd, decide_eq_false hd]; exact ⟨_, rfl, rfl⟩
  ·rw [if_neg (by simp [hk]), beq_ne hk]
   by_cases hd : (fileAt c n).Dirty = []
   ·rw [if_pos hd, decide_eq_true hd]; exact ⟨_, rfl, rfl⟩
   ·rw [if_neg hd, decide_eq_false hd]; exact ⟨_, rfl, rfl⟩
theorem drops_ok {c : TClient} {n : Int} (S : Shape c) (h1 : 1 ≤ n) (h6 : n ≤ 6) : ∃ s, client_work_drops n (Wk c) = some s ∧ er4 s = dropsS c n := by
 have hx := fileAt_some S.files h1 h6
 unfold client_work_drops client_work_drops_t dropsS
 simp only [get_opt, get_ite, get_ret, get_altT, (file_ok S.files h1 h6 _).2.1, some_bind, alt_inl, hx, (free_ok _).2, (says_ok _ _).2, (gives_ok S h1 h6 _).1]
 by_cases hm : (fileAt c n).Mode = 0
 ·rw [if_pos hm, beq_of hm]; exact ⟨_, rfl, rfl⟩
 ·rw [if_neg hm, beq_ne hm]
  cases hi : c.Out.Is <;> exact ⟨_, rfl, rfl⟩
theorem ends_ok {c : TClient} {n : Int} (S : Shape c) (h1 : 1 ≤ n) (h6 : n ≤ 6) : ∃ s, client_work_ends n (Wk c) = some s ∧ er3 s = endsS c n := by
 have hx := fileAt_some S.files h1 h6
 unfold client_work_ends client_work_ends_t endsS
 simp only [get_opt, get_ite, get_ret, get_altT, (file_ok S.files h1 h6 _).2.1, some_bind, alt_inl, hx, (free_ok _).2, (says_ok _ _).2, (asks_ok _ _).2, len_gtz]
 have h2 : ∀ a : TAsk, (askS c a).1.Files = c.Files := fun _ => rfl
 simp only [h2, hx, some_bind]
 cases hi : c.Out.Is with
 | true => exact ⟨_, rfl, rfl⟩
 | false =>
  by_cases hd : (fileAt c n).Dirty = []
  ·rw [decide_eq_true hd, if_neg (by simp), if_neg (by simp [hd])]; exact ⟨_, rfl, rfl⟩
  ·rw [decide_eq_false hd, if_neg (by simp), if_pos hd]; exact ⟨_, rfl, rfl⟩
theorem index_ok (l : List (List UInt8)) (s : List UInt8) (h : l.length < 1000) : slices_Index_string fuel l s = some (match findS l s with | some i => (i : Int) | none => -1) := by
 unfold slices_Index_string slices_Index_string_t slices_Index_string_l0
 simp only [get_opt, get_ret, get_altT]
 obtain ⟨x, e, hx⟩ := iter_inv (step := slices_Index_string_s0 l s (l.length : Int)) (fun k v => ∃ i : Nat, v = (i : Int) ∧ i + k = l.length ∧ findS l s = ((l.drop i).findIdx? (s == ·)).map (· + i)) (fun r => match findS l s with | some i => r = .inl (i : Int) | none => r = .inr ()) (fun k v hI => by
  obtain ⟨i, hi, hk, he⟩ := hI
  subst hi
  simp only [slices_Index_string_s0, slices_Index_string_s0t, get_ite, get_opt, get_ret, get_fail]
  by_cases hlt : i < l.length
  ·have ha := List.getElem?_eq_getElem hlt
   rw [lt_dec hlt, inR_nat hlt, Int.toNat_natCast, ha, some_bind]
   rw [List.drop_eq_getElem_cons hlt, List.findIdx?_cons] at he
   cases hc : (s == l[i]) with
   | true =>
    rw [hc] at he
    refine ⟨_, rfl, ?_⟩
    rw [he]; simp
   | false =>
    rw [hc] at he
    rw [wi64_succ (by omega)]
    refine ⟨_, rfl, k - 1, by omega, i + 1, rfl, by omega, ?_⟩
    rw [he]
    simp only [Bool.false_eq_true, if_false, Option.map_map]
    congr 1
    funext j
    simp; omega
  ·obtain rfl : i = l.length := by omega
   rw [ge_dec]
   refine ⟨_, rfl, ?_⟩
   rw [List.drop_length] at he
   rw [he]; rfl) l.length 0 fuel ⟨0, rfl, by omega, by unfold findS; simp⟩ (fuel_gt (by omega))
 rw [e, some_bind]
 cases hf : findS l s with
 | none => rw [hf] at hx; rw [hx]; rfl
 | some i => rw [hf] at hx; rw [hx]; rfl
theorem findS_lt {l : List (List UInt8)} {s : List UInt8} {i : Nat} (h : findS l s = some i) : i < l.length := by
 unfold findS at h
 exact (List.findIdx?_eq_some_iff_getElem.1 h).1
theorem opens_ok {c : TClient} (S : Shape c) (s : List UInt8) (hs : s.length < 4294967296) : ∃ r, client_work_opens fuel s (Wk c) = some r ∧ erO r = opensS c s := by
 unfold client_work_opens client_work_opens_t opensS
 simp only [get_opt, get_ite, get_ret, get_altT, dir_May_ok s hs, some_bind, index_ok c.Names s (by have := S.names; omega), (free_ok _).1, (says_ok _ _).1, (asks_ok _ _).1]
 cases hm : mayName s with
 | false => exact ⟨_, rfl, rfl⟩
 | true =>
  rw [if_neg (by simp)]
  cases hf : findS c.Names s with
  | some i =>
   have := findS_lt hf
   have := S.names
   simp only
   rw [decide_eq_true (show (i : Int) ≥ 0 by omega), wi64_of (by omega) (by omega)]
   exact ⟨_, rfl, rfl⟩
  | none =>
   simp only
   cases hi : c.Out.Is <;> exact ⟨_, rfl, rfl⟩
@[reducible] def Tk : Type := Tclient_told × Tclient_work
@[reducible] def Wr : Type := Tclient_work
def er15 : Wr ⊕ (Wr ⊕ (Wr ⊕ (Wr ⊕ (Wr ⊕ (Wr ⊕ (Wr ⊕ (Wr ⊕ (Wr ⊕ (Tk ⊕ (Tk ⊕ (Tk ⊕ (Tk ⊕ (Tk ⊕ Tk))))))))))))) → Out3
 | .inl w => eN w
 | .inr (.inl w) => eN w
 | .inr (.inr (.inl w)) => eW w
 | .inr (.inr (.inr (.inl w))) => eW w
 | .inr (.inr (.inr (.inr (.inl w)))) => eW w
 | .inr (.inr (.inr (.inr (.inr (.inl w))))) => eW w
 | .inr (.inr (.inr (.inr (.inr (.inr (.inl w)))))) => eW w
 | .inr (.inr (.inr (.inr (.inr (.inr (.inr (.inl w))))))) => eW w
 | .inr (.inr (.inr (.inr (.inr (.inr (.inr (.inr (.inl w)))))))) => eW w
 | .inr (.inr (.inr (.inr (.inr (.inr (.inr (.inr (.inr (.inl p))))))))) => eT p
 | .inr (.inr (.inr (.inr (.inr (.inr (.inr (.inr (.inr (.inr (.inl p)))))))))) => eT p
 | .inr (.inr (.inr (.inr (.inr (.inr (.inr (.inr (.inr (.inr (.inr (.inl p))))))))))) => eT p
 | .inr (.inr (.inr (.inr (.inr (.inr (.inr (.inr (.inr (.inr (.inr (.inr (.inl p)))))))))))) => eT p
 | .inr (.inr (.inr (.inr (.inr (.inr (.inr (.inr (.inr (.inr (.inr (.inr (.inr (.inl p))))))))))))) => eT p
 | .inr (.inr (.inr (.inr (.inr (.inr (.inr (.inr (.inr (.inr (.inr (.inr (.inr (.inr p))))))))))))) => eT p
theorem step_ok {c : TClient} (S : Shape c) (s : TStep) (hs : s.Text.length < 4294967296) : ∃ r, client_work_step fuel s (Wk c) = some r ∧ er15 r = stepS c s := by
 unfold client_work_step client_work_step_t stepS
 simp only [get_opt, get_ite, get_ret, get_altT, (says_ok _ _).1, (says_ok _ _).2]
 by_cases k1 : s.Kind < 3
 ·rw [decide_eq_true k1, if_pos (Or.inl k1)]; exact ⟨_, rfl, rfl⟩
 by_cases k2 : s.Kind > 8
 ·rw [decide_eq_false k1, decide_eq_true k2, if_pos (Or.inr k2)]; exact ⟨_, rfl, rfl⟩
 rw [decide_eq_false k1, decide_eq_false k2, if_neg (by omega)]
 simp only [cond_false]
 by_cases k3 : s.Kind = 3
 ·rw [if_pos k3, beq_of k3, cond_true]
  obtain ⟨r, e, hr⟩ := opens_ok S s.Text hs
  rw [e, some_bind, ← hr]
  rcases r with r | r <;> exact ⟨_, rfl, rfl⟩
 rw [if_neg k3, beq_ne k3, cond_false]
 by_cases f1 : s.File < 1
 ·rw [decide_eq_true f1, if_pos (Or.inl f1)]; exact ⟨_, rfl, rfl⟩
 by_cases f2 : s.File > 6
 ·rw [decide_eq_false f1, S.files, decide_eq_true (show s.File > ((6 : Nat) : Int) from f2), if_pos (Or.inr f2)]; exact ⟨_, rfl, rfl⟩
 rw [decide_eq_false f1, S.files, decide_eq_false (show ¬ s.File > ((6 : Nat) : Int) from f2), if_neg (by omega)]
 have h1 : 1 ≤ s.File := by omega
 have h6 : s.File ≤ 6 := by omega
 have hx := fileAt_some S.files h1 h6
 simp only [cond_false, (file_ok S.files h1 h6 _).1, some_bind, alt_inl, hx]
 by_cases k5 : s.Kind = 5
 ·obtain ⟨r, e, hr⟩ := writes_ok S h1 h6 ⟨s.Off, s.Text⟩
  rw [k5]
  simp only [e, some_bind, true_and, show ((5 : Int) == 5) = true from rfl, show ((5 : Int) == 4) = false from rfl, show ((5 : Int) != 8) = true from rfl, cond_true, cond_false]
  cases hm : file_May ⟨s.Off, s.Text⟩ with
  | false => exact ⟨_, rfl, rfl⟩
  | true =>
   rw [if_neg (by simp)]
   cases hl : (fileAt c s.File).Lost with
   | true => exact ⟨_, rfl, rfl⟩
   | false =>
    rw [if_neg (by simp), ← hr]
    rcases r with r | r | r | r | r | r | r <;> exact ⟨_, rfl, rfl⟩
 ·rw [beq_ne k5, if_neg (fun h => k5 h.1)]
  simp only [cond_false, if_neg k5]
  by_cases k8 : s.Kind = 8
  ·rw [k8]
   obtain ⟨r, e, hr⟩ := ends_ok S h1 h6
   simp only [e, some_bind, show ((8 : Int) == 8) = true from rfl, show ((8 : Int) == 4) = false from rfl, show ((8 : Int) == 6) = false from rfl, show ((8 : Int) == 7) = false from rfl, show ((8 : Int) != 8) = false from rfl, cond_true, cond_false]
   rw [if_neg (by simp), ← hr]
   cases hl : (fileAt c s.File).Lost <;> rcases r with r | r | r <;> exact ⟨_, rfl, rfl⟩
  ·rw [show (s.Kind != 8) = true by simp [k8]]
   simp only [cond_true]
   cases hl : (fileAt c s.File).Lost with
   | true => rw [if_pos ⟨rfl, k8⟩]; exact ⟨_, rfl, rfl⟩
   | false =>
    rw [if_neg (by simp)]
    simp only [cond_false]
    by_cases k4 : s.Kind = 4
    ·obtain ⟨r, e, hr⟩ := reads_ok S h1 h6
     rw [if_pos k4, beq_of k4, e, cond_true, some_bind, ← hr]
     rcases r with r | r | r | r <;> exact ⟨_, rfl, rfl⟩
    rw [if_neg k4, beq_ne k4, cond_false]
    by_cases k6 : s.Kind = 6
    ·obtain ⟨r, e, hr⟩ := syncs_ok S h1 h6
     rw [if_pos k6, beq_of k6, e, cond_true, some_bind, ← hr]
     rcases r with r | r | r | r <;> exact ⟨_, rfl, rfl⟩
    rw [if_neg k6, beq_ne k6, cond_false]
    have k7 : s.Kind = 7 := by omega
    obtain ⟨r, e, hr⟩ := drops_ok S h1 h6
    rw [if_pos k7, beq_of k7, e, cond_true, some_bind, ← hr]
    rcases r with r | r | r | r <;> exact ⟨_, rfl, rfl⟩
@[reducible] def Ak : Type := TAns × Tclient_work
def eA (p : Ak) : Out3 := (p.2.Client, p.1, [])
def er13 : Ak ⊕ (Ak ⊕ (Ak ⊕ (Ak ⊕ (Ak ⊕ (Ak ⊕ (Wr ⊕ (Wr ⊕ (Wr ⊕ (Wr ⊕ (Wr ⊕ (Wr ⊕ Wr))))))))))) → Out3
 | .inl p => eA p
 | .inr (.inl p) => eA p
 | .inr (.inr (.inl p)) => eA p
 | .inr (.inr (.inr (.inl p))) => eA p
 | .inr (.inr (.inr (.inr (.inl p)))) => eA p
 | .inr (.inr (.inr (.inr (.inr (.inl p))))) => eA p
 | .inr (.inr (.inr (.inr (.inr (.inr (.inl w)))))) => eW w
 | .inr (.inr (.inr (.inr (.inr (.inr (.inr (.inl w))))))) => eW w
 | .inr (.inr (.inr (.inr (.inr (.inr (.inr (.inr (.inl w)))))))) => eW w
 | .inr (.inr (.inr (.inr (.inr (.inr (.inr (.inr (.inr (.inl w))))))))) => eW w
 | .inr (.inr (.inr (.inr (.inr (.inr (.inr (.inr (.inr (.inr (.inl w)))))))))) => eW w
 | .inr (.inr (.inr (.inr (.inr (.inr (.inr (.inr (.inr (.inr (.inr (.inl w))))))))))) => eW w
 | .inr (.inr (.inr (.inr (.inr (.inr (.inr (.inr (.inr (.inr (.inr (.inr w))))))))))) => eW w
theorem does_ok {c : TClient} (S : Shape c) (s : TStep) (hs : s.Text.length < 4294967296) : ∃ r, client_work_does fuel s (Wk c) = some r ∧ er13 r = stepS c s := by
 obtain ⟨r, e, hr⟩ := step_ok S s hs
 unfold client_work_does client_work_does_t
 simp only [get_opt, get_ite, get_ret, get_altT, e, some_bind]
 rw [← hr]
 rcases r with r | r | r | r | r | r | r | r | r | r | r | r | r | r | r <;> exact ⟨_, rfl, rfl⟩
theorem Do_ok {c : TClient} (S : Shape (lapseS c)) (h : c.Files.length < 1000) (s : TStep) (hs : s.Text.length < 4294967296) : client_Do fuel c s = some (doS c s) := by
 obtain ⟨r, e, hr⟩ := does_ok S s hs
 unfold client_Do client_Do_t doS
 simp only [get_opt, get_ite, get_ret, get_altT, of_ok c h, some_bind]
 rw [e, some_bind, ← hr]
 rcases r with r | r | r | r | r | r | r | r | r | r | r | r | r <;> rfl
end Go.Proofs.YthabbcjjecpbmaaGreat.N
