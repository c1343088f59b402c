/- Loops and whole numbers of the nice functions. Plain words for this seat (1). Plain words for this seat (2). Plain words for this seat (3). Plain words for this seat (4). Plain words for this seat (5). Plain words for this seat (6). Plain words for this seat (7). Plain words for this seat (8). Plain words for this seat (9). A disk, in plain words: writes, flushes, a commit. A commit, in plain words. Mending, in plain words; what lasts. What lasts of a disk; sectors of numbers. -/
import Derived.Test.YtddhfdbfackahaaDoorBase5
import Derived.Laws.BitsLemmas
import Derived.Test.YtddhfdbfackahaaDoorSeat2
set_option linter.unusedVariables false
set_option linter.unusedSimpArgs false
namespace Go.Proofs.YtddhfdbfackahaaDoor.N
open Go

theorem wi64_of {n : Int} (h1 : -9223372036854775808 ≤ n) (h2 : n ≤ 9223372036854775807) : wi64 n = n := by
  unfold wi64; rw [IntKind.wrap_i64]; omega

theorem some_bind {α β : Type} (a : α) (f : α → Option β) : (some a).bind f = f a := rfl

theorem i8_lo (x : UInt8) : 0 ≤ i8 x := Int.natCast_nonneg _
theorem i8_hi (x : UInt8) : i8 x < 256 := by have := x.toNat_lt; unfold i8; omega
theorem i8_inj {x y : UInt8} (h : i8 x = i8 y) : x = y := UInt8.toNat_inj.1 (by unfold i8 at h; omega)
theorem i8_b8 {n : Int} (h : 0 ≤ n) (h2 : n < 256) : i8 (b8 n) = n := by
  unfold i8 b8
  rw [UInt8.toNat_ofNat_of_lt' (by show n.toNat < 256; omega)]
  omega
theorem b8_i8 (x : UInt8) : b8 (i8 x) = x := by
  unfold b8 i8; simp

theorem inR_of {i : Int} {n : Nat} (h : 0 ≤ i) (h2 : i < n) : inR i n = true := by
  unfold inR; simp [h, h2]

theorem at_of {α : Type} {xs : List α} {i : Nat} {a : α} (h : xs[i]? = some a) : i < xs.length := (List.getElem?_eq_some_iff.1 h).1

/-! Loops over a list -/
/-- A walk along a list: go on, or leave. -/
def runL {A S X : Type} (g : A → S → Option (S ⊕ X)) (fin : S → X) : List A → S → Option X
  | [], s => some (fin s)
  | a :: r, s => (g a s).bind fun o => alt o (fun s' => runL g fin r s') (fun x => some x)

theorem iter_list {A S V X : Type} {step : V → Option (V ⊕ X)} {xs : List A} {mk : Nat → S → V} {g : A → S → Option (S ⊕ X)} {fin : S → X}
    (hc : ∀ i s a, xs[i]? = some a → step (mk i s) = (g a s).map (Sum.map (mk (i + 1)) id)) (he : ∀ s, step (mk xs.length s) = some (.inr (fin s))) :
    ∀ (r : List A) (i : Nat) (s : S) (n : Nat), xs.drop i = r → i ≤ xs.length → r.length < n → iter step n (mk i s) = runL g fin r s
  | _, _, _, 0, _, _, h => absurd h (Nat.not_lt_zero _)
  | [], i, s, n + 1, hd, hi, _ => by
    have : xs.length ≤ i := List.drop_eq_nil_iff.1 hd
    have : i = xs.length := Nat.le_antisymm hi this
    subst this
    rw [iter_succ, he]
    rfl
  | a :: r, i, s, n + 1, hd, hi, hn => by
    have hlt : i < xs.length := by
      rcases Nat.lt_or_ge i xs.length with h | h
      · exact h
      · rw [List.drop_eq_nil_iff.2 h] at hd; cases hd
    have ha : xs[i]? = some a := by
      have := List.getElem?_drop (xs := xs) (i := i) (j := 0)
      rw [hd] at this
      simpa using this.symm
    have hr : xs.drop (i + 1) = r := by
      have := List.drop_drop (l := xs) (i := 1) (j := i)
      rw [hd] at this
      simpa using this.symm
    rw [iter_succ, hc i s a ha, runL]
    cases hg : g a s with
    | none => rfl
    | some o =>
      simp only [Option.map_some, Option.bind_some]
      cases o with
      | inl s' => exact iter_list hc he r (i + 1) s' n hr hlt (by simp at hn; omega)
      | inr x => rfl

theorem iter_list0 {A S V X : Type} {step : V → Option (V ⊕ X)} {xs : List A} (mk : Nat → S → V) (g : A → S → Option (S ⊕ X)) (fin : S → X)
    (hc : ∀ i s a, xs[i]? = some a → step (mk i s) = (g a s).map (Sum.map (mk (i + 1)) id)) (he : ∀ s, step (mk xs.length s) = some (.inr (fin s))) (s : S) (hn : xs.length < fuel) :
    iter step fuel (mk 0 s) = runL g fin xs s := iter_list hc he xs 0 s fuel rfl (Nat.zero_le _) hn

theorem fuel_gt {n : Nat} (h : n < 4294967296) : n < fuel := by rw [fuel_eq]; exact h

/-- Counting down. -/
theorem iter_down {S V X : Type} {step : V → Option (V ⊕ X)} (mk : Nat → S → V) (g : S → Option (S ⊕ X)) (fin : S → X)
    (hc : ∀ i s, step (mk (i + 1) s) = (g s).map (Sum.map (mk i) id)) (he : ∀ s, step (mk 0 s) = some (.inr (fin s))) :
    ∀ (i : Nat) (s : S) (n : Nat), i < n → iter step n (mk i s) = runL (fun _ : Unit => g) fin (List.replicate i ()) s
  | _, _, 0, h => absurd h (Nat.not_lt_zero _)
  | 0, s, n + 1, _ => by rw [iter_succ, he]; rfl
  | i + 1, s, n + 1, h => by
    rw [iter_succ, hc, List.replicate_succ, runL]
    cases g s with
    | none => rfl
    | some o =>
      cases o with
      | inl s' => exact iter_down mk g fin hc he i s' n (by omega)
      | inr x => rfl

/-! All, any -/
theorem runL_all {A X : Type} (p : A → Bool) (x y : X) : ∀ l : List A, runL (S := Unit) (fun a _ => bif p a then some (.inl ()) else some (.inr x)) (fun _ => y) l () = some (bif l.all p then y else x)
  | [] => rfl
  | a :: r => by
    rw [runL, List.all_cons]
    cases p a with
    | true => exact runL_all p x y r
    | false => rfl

end Go.Proofs.YtddhfdbfackahaaDoor.N

set_option linter.unusedVariables false
set_option linter.unusedSimpArgs false
namespace Go.Proofs.YtddhfdbfackahaaDoor.N
open Go

theorem lt_dec {i n : Nat} (h : i < n) : decide ((i : Int) < (n : Int)) = true := decide_eq_true (by omega)
theorem ge_dec (n : Nat) : decide ((n : Int) < (n : Int)) = false := decide_eq_false (by omega)
theorem inR_nat {i n : Nat} (h : i < n) : inR (i : Int) n = true := inR_of (by omega) (by omega)
theorem wi64_succ {i : Nat} (h : i < 4294967296) : wi64 ((i : Int) + 1) = ((i + 1 : Nat) : Int) := by rw [wi64_of (by omega) (by omega)]; omega

/-! Names -/
def okc (a : UInt8) : Bool := !(decide (i8 a < 33)) && !(decide (i8 a > 126))
def mayName (s : List UInt8) : Bool := s.all okc && (decide ((s.length : Int) ≥ 1) && decide ((s.length : Int) ≤ 8))

/-! Writes -/
/-! Sameness -/
theorem write_eqb (x y : TWrite) : TWrite.eqb x y = true ↔ x = y := by
  cases x; cases y
  simp [TWrite.eqb]

def sameW : List TWrite → List TWrite → Bool
  | [], [] => true
  | x :: a, y :: b => TWrite.eqb x y && sameW a b
  | _, _ => false

theorem sameW_iff : ∀ a b : List TWrite, sameW a b = true ↔ a = b
  | [], [] => by simp [sameW]
  | [], _ :: _ => by simp [sameW]
  | _ :: _, [] => by simp [sameW]
  | x :: a, y :: b => by simp [sameW, write_eqb, sameW_iff a b]

theorem sameW_zip : ∀ a b : List TWrite, a.length = b.length → sameW a b = (a.zip b).all fun p => TWrite.eqb p.1 p.2
  | [], [], _ => rfl
  | [], _ :: _, h => by simp at h
  | _ :: _, [], h => by simp at h
  | x :: a, y :: b, h => by
    simp only [sameW, List.zip_cons_cons, List.all_cons]
    rw [sameW_zip a b (by simpa using h)]

theorem sameW_len {a b : List TWrite} (h : a.length ≠ b.length) : sameW a b = false := by
  cases hs : sameW a b with
  | false => rfl
  | true => exact absurd (by rw [(sameW_iff a b).1 hs]) h

theorem zip_at {α β : Type} {a : List α} {b : List β} {i : Nat} {p : α × β} (h : (a.zip b)[i]? = some p) : a[i]? = some p.1 ∧ b[i]? = some p.2 := by
  rw [List.getElem?_zip_eq_some] at h
  exact h

def sameAsk (a b : TAsk) : Bool := a.Kind == b.Kind && (a.From == b.From && (a.Epoch == b.Epoch && (a.Seq == b.Seq && (a.Name == b.Name && (a.File == b.File && (a.Mode == b.Mode && sameW a.Writes b.Writes))))))

theorem sameAsk_iff (a b : TAsk) : sameAsk a b = true ↔ a = b := by
  cases a; cases b
  simp [sameAsk, sameW_iff]

theorem sameAsk_refl (a : TAsk) : sameAsk a a = true := (sameAsk_iff a a).2 rfl

theorem and_cond (a b : Bool) : (a && b) = bif a then b else false := by cases a <;> rfl

end Go.Proofs.YtddhfdbfackahaaDoor.N

set_option linter.unusedVariables false
set_option linter.unusedSimpArgs false
namespace Go.Proofs.YtddhfdbfackahaaDoor.N
open Go

def rng (lo hi v : Int) : Bool := decide (lo ≤ v) && decide (v ≤ hi)
theorem rng_iff {lo hi v : Int} : rng lo hi v = true ↔ lo ≤ v ∧ v ≤ hi := by simp [rng]
def wantW (a : TAsk) : Bool := a.Kind == 3 || a.Kind == 4
def want (a : TAsk) : TAsk :=
  bif a.Kind == 1 then ⟨a.Kind, a.From, a.Epoch, a.Seq, a.Name, 0, 0, []⟩ else
  bif a.Kind == 2 then ⟨a.Kind, a.From, a.Epoch, a.Seq, [], a.File, a.Mode, []⟩ else
  bif wantW a then ⟨a.Kind, a.From, a.Epoch, a.Seq, [], a.File, 0, a.Writes⟩ else ⟨a.Kind, a.From, a.Epoch, a.Seq, [], a.File, 0, []⟩
theorem want_len (a : TAsk) : (want a).Writes.length ≤ a.Writes.length := by
  unfold want
  cases a.Kind == 1 <;> cases a.Kind == 2 <;> cases wantW a <;> simp

theorem sameAsk_comm (a b : TAsk) : sameAsk a b = sameAsk b a := by
  cases h : sameAsk b a with
  | true => exact (sameAsk_iff _ _).2 ((sameAsk_iff _ _).1 h).symm
  | false =>
    cases h2 : sameAsk a b with
    | false => rfl
    | true => rw [((sameAsk_iff _ _).1 h2).symm, sameAsk_refl] at h; cases h

/-! Tells -/
theorem tell_eqb (x y : TTell) : TTell.eqb x y = true ↔ x = y := by
  cases x; cases y
  simp [TTell.eqb]

end Go.Proofs.YtddhfdbfackahaaDoor.N

set_option linter.unusedVariables false
set_option linter.unusedSimpArgs false
namespace Go.Proofs.YtddhfdbfackahaaDoor.N
open Go

/-! Numbers as bytes -/
def byteAt (v : Int) (k : Nat) : UInt8 := b8 (wu8 (shrI .i64 v (wi64 (8 * (k : Int)))))
def be : Nat → Int → List UInt8
  | 0, _ => []
  | k + 1, v => byteAt v k :: be k v

theorem be_len : ∀ (k : Nat) (v : Int), (be k v).length = k
  | 0, _ => rfl
  | k + 1, v => by rw [be, List.length_cons, be_len k v]

/-! Texts -/
def txt (s : List UInt8) : List UInt8 := b8 (s.length : Int) :: s
theorem txt_len (s : List UInt8) : (txt s).length = s.length + 1 := rfl
theorem wu8_of {n : Int} (h : 0 ≤ n) (h2 : n < 256) : wu8 n = n := by unfold wu8; rw [IntKind.wrap_u8]; omega

/-! The checksum -/
def tn (m : Nat) : Nat := if m % 2 = 1 then (m / 2) ^^^ 40961 else m / 2
theorem tn_lt {m : Nat} (h : m < 65536) : tn m < 65536 := by
  unfold tn
  split
  · exact Nat.xor_lt_two_pow (n := 16) (by omega) (by omega)
  · omega

theorem wrap_u16 (n : Int) : IntKind.u16.wrap n = n % 65536 := by simp [IntKind.wrap, IntKind.bits, IntKind.signed]

theorem bxor_u16 {x y : Nat} (hx : x < 65536) (hy : y < 65536) : bxor .u16 (x : Int) (y : Int) = ((x ^^^ y : Nat) : Int) := by
  unfold bxor
  have h16 : IntKind.u16.bits = 16 := rfl
  rw [h16, BitVec.ofInt_natCast, BitVec.ofInt_natCast, BitVec.toNat_xor, BitVec.toNat_ofNat, BitVec.toNat_ofNat, Nat.mod_eq_of_lt (show x < 2 ^ 16 by omega), Nat.mod_eq_of_lt (show y < 2 ^ 16 by omega), wrap_u16]
  have := Nat.xor_lt_two_pow (n := 16) (show x < 2 ^ 16 by omega) (show y < 2 ^ 16 by omega)
  omega

theorem bxor_i64 {x y : Nat} (hx : x < 65536) (hy : y < 65536) : bxor .i64 (x : Int) (y : Int) = ((x ^^^ y : Nat) : Int) := by
  unfold bxor
  have h64 : IntKind.i64.bits = 64 := rfl
  rw [h64, BitVec.ofInt_natCast, BitVec.ofInt_natCast, BitVec.toNat_xor, BitVec.toNat_ofNat, BitVec.toNat_ofNat, Nat.mod_eq_of_lt (show x < 2 ^ 64 by omega), Nat.mod_eq_of_lt (show y < 2 ^ 64 by omega)]
  have := Nat.xor_lt_two_pow (n := 16) (show x < 2 ^ 16 by omega) (show y < 2 ^ 16 by omega)
  exact wi64_of (by omega) (by omega)

theorem band_u16 {x : Nat} (hx : x < 65536) : band .u16 (x : Int) 1 = ((x % 2 : Nat) : Int) := by
  unfold band
  have h16 : IntKind.u16.bits = 16 := rfl
  rw [h16, show (1 : Int) = ((1 : Nat) : Int) from rfl, BitVec.ofInt_natCast, BitVec.ofInt_natCast, BitVec.toNat_and, BitVec.toNat_ofNat, BitVec.toNat_ofNat, Nat.mod_eq_of_lt (show x < 2 ^ 16 by omega), Nat.mod_eq_of_lt (show 1 < 2 ^ 16 by omega), wrap_u16, Nat.and_one_is_mod]
  omega

theorem shr_u16 (x : Nat) : shrI .u16 (x : Int) 1 = ((x / 2 : Nat) : Int) := by
  unfold shrI
  have : min (1 : Int).toNat IntKind.u16.bits = 1 := rfl
  rw [this]
  show (x : Int).fdiv 2 = _
  rw [Int.fdiv_eq_ediv_of_nonneg _ (by omega)]
  omega

def crcByte (m : Nat) (u : UInt8) : Nat := tn (tn (tn (tn (tn (tn (tn (tn (m ^^^ u.toNat))))))))
def crcN (b : List UInt8) : Nat := b.foldl crcByte 0

theorem xor_lt {m : Nat} (h : m < 65536) (u : UInt8) : m ^^^ u.toNat < 65536 := Nat.xor_lt_two_pow (n := 16) (by omega) (by have := u.toNat_lt; omega)
theorem crcByte_lt {m : Nat} (h : m < 65536) (u : UInt8) : crcByte m u < 65536 := tn_lt (tn_lt (tn_lt (tn_lt (tn_lt (tn_lt (tn_lt (tn_lt (xor_lt h u))))))))
theorem crc_fold_lt : ∀ (b : List UInt8) {m : Nat}, m < 65536 → b.foldl crcByte m < 65536
  | [], m, h => h
  | u :: r, m, h => crc_fold_lt r (crcByte_lt h u)
theorem crcN_lt (b : List UInt8) : crcN b < 65536 := crc_fold_lt b (by omega)

/-- A walk that folds. -/
theorem runL_fold {A S : Type} (f : S → A → S) (P : S → Prop) (hf : ∀ s a, P s → P (f s a)) (g : A → S → Option (S ⊕ S)) (hg : ∀ a s, P s → g a s = some (.inl (f s a))) : ∀ (l : List A) (s : S), P s → runL g (fun s => s) l s = some (l.foldl f s)
  | [], s, _ => rfl
  | a :: r, s, h => by
    rw [runL, hg a s h, some_bind, alt_inl]
    exact runL_fold f P hf g hg r _ (hf s a h)

def sealB (b : List UInt8) : List UInt8 := b ++ be 2 (crcN b : Int)
end Go.Proofs.YtddhfdbfackahaaDoor.N

set_option linter.unusedVariables false
set_option linter.unusedSimpArgs false
namespace Go.Proofs.YtddhfdbfackahaaDoor.N
open Go

theorem lim_eq : lim = 2147483648 := rfl

def wr1 (w : TWrite) : List UInt8 := be 1 w.Off ++ txt w.B
def wrs (l : List TWrite) : List UInt8 := (l.map wr1).flatten
def headAsk (a : TAsk) : List UInt8 := be 1 a.Kind ++ (be 1 a.From ++ (be 4 a.Epoch ++ (be 4 a.Seq ++ (txt a.Name ++ (be 1 a.File ++ (be 1 a.Mode ++ be 1 (a.Writes.length : Int)))))))
def bodyAsk (a : TAsk) : List UInt8 := headAsk a ++ wrs a.Writes
theorem mayName_iff {s : List UInt8} : mayName s = true → 1 ≤ s.length ∧ s.length ≤ 8 := by
  intro h
  simp [mayName] at h
  omega

theorem wr1_len (w : TWrite) : (wr1 w).length = 2 + w.B.length := by unfold wr1; rw [List.length_append, be_len, txt_len]; omega
theorem headAsk_len (a : TAsk) : (headAsk a).length = 14 + a.Name.length := by
  unfold headAsk
  simp only [List.length_append, be_len, txt_len]
  omega

/-! Tells -/
def bodyTell (t : TTell) : List UInt8 := be 1 t.Kind ++ (be 1 t.To ++ (be 4 t.Epoch ++ (be 4 t.Seq ++ (be 1 t.Err ++ (be 1 t.File ++ (be 1 t.Mode ++ (be 4 t.Ver ++ txt t.Body)))))))
theorem bodyTell_len (t : TTell) : (bodyTell t).length = 18 + t.Body.length := by
  unfold bodyTell
  simp only [List.length_append, be_len, txt_len]
  omega

end Go.Proofs.YtddhfdbfackahaaDoor.N

set_option linter.unusedVariables false
set_option linter.unusedSimpArgs false
namespace Go.Proofs.YtddhfdbfackahaaDoor.N
open Go

/-! Numbers -/
def val (l : List UInt8) : Int := l.foldl (fun v x => v * 256 + i8 x) 0
def num (k : Nat) (b : List UInt8) : Option (Int × List UInt8) := if b.length < k then none else some (val (b.take k), b.drop k)

theorem bor_add {v x : Nat} (hv : v < 36028797018963968) (hx : x < 256) : bor .i64 (shlI .i64 (v : Int) 8) (x : Int) = (v : Int) * 256 + (x : Int) := by
  have h1 : shlI .i64 (v : Int) 8 = ((v <<< 8 : Nat) : Int) := by
    unfold shlI
    have : min (8 : Int).toNat IntKind.i64.bits = 8 := rfl
    rw [this, Nat.shiftLeft_eq]
    show wi64 ((v : Int) * 2 ^ 8) = _
    rw [wi64_of (by omega) (by omega)]
    omega
  rw [h1]
  unfold bor
  have h64 : IntKind.i64.bits = 64 := rfl
  have hs : v <<< 8 < 2 ^ 64 := by rw [Nat.shiftLeft_eq]; omega
  rw [h64, BitVec.ofInt_natCast, BitVec.ofInt_natCast, BitVec.toNat_or, BitVec.toNat_ofNat, BitVec.toNat_ofNat, Nat.mod_eq_of_lt hs, Nat.mod_eq_of_lt (show x < 2 ^ 64 by omega), ← Nat.shiftLeft_add_eq_or_of_lt (show x < 2 ^ 8 by omega), Nat.shiftLeft_eq]
  show wi64 _ = _
  rw [wi64_of (by omega) (by omega)]
  omega

theorem val_step (v : Int) (x : UInt8) (h0 : 0 ≤ v) (h1 : v < 36028797018963968) : bor .i64 (shlI .i64 v 8) (wi64 (i8 x)) = v * 256 + i8 x := by
  have e := bor_add (v := v.toNat) (x := x.toNat) (by omega) x.toNat_lt
  have hx0 := i8_lo x
  have hx1 := i8_hi x
  rw [wi64_of (by omega) (by omega)]
  have e1 : ((v.toNat : Nat) : Int) = v := by omega
  rw [e1] at e
  exact e

theorem fold_bound : ∀ (l : List UInt8) (v : Int), 0 ≤ v → 0 ≤ l.foldl (fun v x => v * 256 + i8 x) v ∧ l.foldl (fun v x => v * 256 + i8 x) v < (v + 1) * 256 ^ l.length
  | [], v, h => by simp; omega
  | x :: r, v, h => by
    have h1 := i8_lo x
    have h2 := i8_hi x
    obtain ⟨g1, g2⟩ := fold_bound r (v * 256 + i8 x) (by omega)
    refine ⟨g1, ?_⟩
    have h3 : (v * 256 + i8 x + 1) ≤ (v + 1) * 256 := by omega
    have h4 : (0 : Int) ≤ 256 ^ r.length := by have : (0 : Int) < 256 ^ r.length := Int.pow_pos (by omega); omega
    have h5 := Int.mul_le_mul_of_nonneg_right h3 h4
    have h6 : (v + 1) * 256 ^ (x :: r).length = (v + 1) * 256 * 256 ^ r.length := by rw [List.length_cons, Int.pow_succ, Int.mul_assoc, Int.mul_comm (256 ^ r.length) 256]
    rw [h6]
    exact Int.lt_of_lt_of_le g2 h5

theorem val_lo (l : List UInt8) : 0 ≤ val l := (fold_bound l 0 (Int.le_refl _)).1
theorem val_hi (l : List UInt8) : val l < 256 ^ l.length := by have := (fold_bound l 0 (Int.le_refl _)).2; rw [Int.zero_add, Int.one_mul] at this; exact this

theorem pow_le7 {k : Nat} (h : k ≤ 6) : (256 : Int) ^ k ≤ 281474976710656 := by
  have : k = 0 ∨ k = 1 ∨ k = 2 ∨ k = 3 ∨ k = 4 ∨ k = 5 ∨ k = 6 := by omega
  rcases this with rfl | rfl | rfl | rfl | rfl | rfl | rfl <;> decide

theorem cutOk_of {lo hi : Int} {n : Nat} (h1 : 0 ≤ lo) (h2 : lo ≤ hi) (h3 : hi ≤ n) : cutOk lo hi n = true := by
  unfold cutOk; simp [h1, h2, h3]
theorem cut_front {α : Type} (b : List α) (k : Nat) : cutL b 0 (k : Int) = b.take k := by
  unfold cutL; simp
theorem cut_back {α : Type} (b : List α) (k : Nat) : cutL b (k : Int) (b.length : Int) = b.drop k := by
  unfold cutL; simp

def rnum (k : Nat) (r : Ttenancyref13_Reader) : Int × Ttenancyref13_Reader := if r.Bad then (0, ⟨r.B, true⟩) else match num k r.B with | some (v, s) => (v, ⟨s, false⟩) | none => (0, ⟨r.B, true⟩)

/-! Texts -/
def text : List UInt8 → Option (List UInt8 × List UInt8)
  | [] => none
  | x :: r => if r.length < x.toNat then none else some (r.take x.toNat, r.drop x.toNat)

theorem text_cons (x : UInt8) (r : List UInt8) : text (x :: r) = if r.length < x.toNat then none else some (r.take x.toNat, r.drop x.toNat) := rfl

theorem text_parts {b s r : List UInt8} (h : text b = some (s, r)) : s.length ≤ 255 ∧ s.length + 1 ≤ b.length ∧ r = b.drop (s.length + 1) := by
  cases b with
  | nil => cases h
  | cons x t =>
    rw [text_cons] at h
    have hx := x.toNat_lt
    by_cases hl : t.length < x.toNat
    · rw [if_pos hl] at h; cases h
    · rw [if_neg hl] at h
      cases h
      have e : (t.take x.toNat).length = x.toNat := by rw [List.length_take]; omega
      refine ⟨by omega, by rw [List.length_cons]; omega, by rw [e]; rfl⟩

def rtext (r : Ttenancyref13_Reader) : List UInt8 × Ttenancyref13_Reader := if r.Bad then ([], ⟨r.B, true⟩) else match text r.B with | some (v, s) => (v, ⟨s, false⟩) | none => ([], ⟨r.B, true⟩)

end Go.Proofs.YtddhfdbfackahaaDoor.N

set_option linter.unusedVariables false
set_option linter.unusedSimpArgs false
namespace Go.Proofs.YtddhfdbfackahaaDoor.N
open Go

def pWrites : Nat → List UInt8 → List TWrite → Option (List TWrite × List UInt8)
  | 0, b, l => some (l, b)
  | n + 1, b, l => (num 1 b).bind fun o => (text o.2).bind fun t => pWrites n t.2 (l ++ [⟨o.1, t.1⟩])

def pAsk (b : List UInt8) : Option (TAsk × List UInt8) :=
  (num 1 b).bind fun k => (num 1 k.2).bind fun f => (num 4 f.2).bind fun e => (num 4 e.2).bind fun s => (text s.2).bind fun nm => (num 1 nm.2).bind fun fl => (num 1 fl.2).bind fun m => (num 1 m.2).bind fun n =>
    (pWrites n.1.toNat n.2 []).bind fun w => some (⟨k.1, f.1, e.1, s.1, nm.1, fl.1, m.1, w.1⟩, w.2)

theorem num_parts {k : Nat} {b : List UInt8} {v : Int} {r : List UInt8} (h : num k b = some (v, r)) : r.length + k = b.length ∧ 0 ≤ v ∧ v < 256 ^ k ∧ v = val (b.take k) ∧ r = b.drop k := by
  unfold num at h
  by_cases hl : b.length < k
  · rw [if_pos hl] at h; cases h
  · rw [if_neg hl] at h
    cases h
    have e : (b.take k).length = k := by rw [List.length_take]; omega
    have := val_hi (b.take k)
    rw [e] at this
    exact ⟨by rw [List.length_drop]; omega, val_lo _, this, rfl, rfl⟩

theorem text_lt {b s r : List UInt8} (h : text b = some (s, r)) : r.length + s.length + 1 = b.length := by
  obtain ⟨h1, h2, h3⟩ := text_parts h
  rw [h3, List.length_drop]; omega

/-- What the writes' loop comes to. -/
def wOut (o : Option (List TWrite × List UInt8)) (a : TAsk) (s : (Tmsg_reader × TAsk) ⊕ ((Tmsg_reader × TAsk × TWrite) ⊕ (Tmsg_reader × TAsk))) : Prop :=
  match o with
  | some (l, r) => s = .inr (.inr (⟨r⟩, ⟨a.Kind, a.From, a.Epoch, a.Seq, a.Name, a.File, a.Mode, l⟩))
  | none => (∃ q, s = .inl q) ∨ ∃ q, s = .inr (.inl q)

/-- What the reader of an ask comes to. -/
def rOut {α : Type} (o : Option (α × List UInt8)) (s : (α × Tmsg_reader) ⊕ Tmsg_reader) : Prop :=
  match o with
  | some (a, r) => s = .inl (a, ⟨r⟩)
  | none => ∃ q, s = .inr q

theorem pWrites_len : ∀ (n : Nat) (b : List UInt8) (l l' : List TWrite) (r : List UInt8), pWrites n b l = some (l', r) → l'.length = l.length + n ∧ r.length ≤ b.length
  | 0, b, l, l', r, h => by cases h; exact ⟨rfl, Nat.le_refl _⟩
  | n + 1, b, l, l', r, h => by
    simp only [pWrites] at h
    cases h1 : num 1 b with
    | none => rw [h1] at h; cases h
    | some p =>
      obtain ⟨o, b1⟩ := p
      rw [h1, some_bind] at h
      have g1 := num_parts h1
      cases h2 : text b1 with
      | none => simp only [h2] at h; cases h
      | some q =>
        obtain ⟨t, b2⟩ := q
        simp only [h2, some_bind] at h
        have g2 := text_lt h2
        obtain ⟨h3, h4⟩ := pWrites_len n b2 _ l' r h
        rw [List.length_append] at h3
        simp only [List.length_cons, List.length_nil] at h3
        exact ⟨by omega, by omega⟩

theorem pAsk_parts {b : List UInt8} {a : TAsk} {r : List UInt8} (h : pAsk b = some (a, r)) : a.Name.length ≤ 255 ∧ a.Writes.length ≤ 255 ∧ b ≠ [] := by
  unfold pAsk at h
  simp only [Option.bind_eq_some_iff] at h
  obtain ⟨p1, h1, p2, h2, p3, h3, p4, h4, p5, h5, p6, h6, p7, h7, p8, h8, p9, h9, h10⟩ := h
  cases h10
  have g8 := num_parts h8
  have g9 := pWrites_len _ _ _ _ _ h9
  have g10 : p8.1 < 256 := g8.2.2.1
  have g5 := text_parts h5
  refine ⟨g5.1, by rw [g9.1]; simp; omega, ?_⟩
  rintro rfl
  cases h1

/-! Equal bytes -/
def noAsk : TAsk := ⟨0, 0, 0, 0, [], 0, 0, []⟩
theorem sealB_len (b : List UInt8) : (sealB b).length = b.length + 2 := by unfold sealB; rw [List.length_append, be_len]
end Go.Proofs.YtddhfdbfackahaaDoor.N

set_option linter.unusedVariables false
set_option linter.unusedSimpArgs false
namespace Go.Proofs.YtddhfdbfackahaaDoor.N
open Go

theorem rnum_some {k : Nat} {b r : List UInt8} {v : Int} (h : num k b = some (v, r)) : rnum k ⟨b, false⟩ = (v, ⟨r, false⟩) := by unfold rnum; simp [h]
theorem rnum_none {k : Nat} {b : List UInt8} (h : num k b = none) : rnum k ⟨b, false⟩ = (0, ⟨b, true⟩) := by unfold rnum; simp [h]
theorem rnum_bad {k : Nat} {b : List UInt8} : rnum k ⟨b, true⟩ = (0, ⟨b, true⟩) := rfl
theorem rtext_some {b r s : List UInt8} (h : text b = some (s, r)) : rtext ⟨b, false⟩ = (s, ⟨r, false⟩) := by unfold rtext; simp [h]
theorem rtext_none {b : List UInt8} (h : text b = none) : rtext ⟨b, false⟩ = ([], ⟨b, true⟩) := by unfold rtext; simp [h]
theorem rtext_bad {b : List UInt8} : rtext ⟨b, true⟩ = ([], ⟨b, true⟩) := rfl

def qOut (o : Option (List TWrite × List UInt8)) (a : TAsk) (s : TAsk × Ttenancyref13_Reader × TAsk) : Prop :=
  match o with
  | some (l, r) => s.2 = (⟨r, false⟩, ⟨a.Kind, a.From, a.Epoch, a.Seq, a.Name, a.File, a.Mode, l⟩)
  | none => s.2.1.Bad = true

/-! Tells -/
def pTell (b : List UInt8) : Option (TTell × List UInt8) :=
  (num 1 b).bind fun k => (num 1 k.2).bind fun f => (num 4 f.2).bind fun e => (num 4 e.2).bind fun s => (num 1 s.2).bind fun er => (num 1 er.2).bind fun fl => (num 1 fl.2).bind fun m => (num 4 m.2).bind fun ve =>
    (text ve.2).bind fun w => some (⟨k.1, f.1, e.1, s.1, er.1, fl.1, m.1, ve.1, w.1⟩, w.2)

theorem pTell_parts {b : List UInt8} {t : TTell} {r : List UInt8} (h : pTell b = some (t, r)) : b ≠ [] := by
  rintro rfl
  cases h

def noTell : TTell := ⟨0, 0, 0, 0, 0, 0, 0, 0, []⟩
end Go.Proofs.YtddhfdbfackahaaDoor.N

set_option linter.unusedVariables false
set_option linter.unusedSimpArgs false
namespace Go.Proofs.YtddhfdbfackahaaDoor.N
open Go

theorem i8_byteAt {v : Int} (h : 0 ≤ v) (k : Nat) (hk : k ≤ 3) : i8 (byteAt v k) = v / 256 ^ k % 256 := by
  have key : ∀ s : Int, byteAt v k = b8 (wu8 s) → i8 (byteAt v k) = s % 256 := by
    intro s hs
    rw [hs]
    have e : wu8 s = s % 256 := by unfold wu8; rw [IntKind.wrap_u8]
    rw [e, i8_b8 (by omega) (by omega)]
  have h3 : k = 0 ∨ k = 1 ∨ k = 2 ∨ k = 3 := by omega
  rcases h3 with rfl | rfl | rfl | rfl
  · refine key (v / 256 ^ 0) (congrArg (fun s => b8 (wu8 s)) ?_)
    rw [wi64_of (by omega) (by omega)]
    show v.fdiv 1 = v / 1
    rw [Int.fdiv_eq_ediv_of_nonneg _ (by omega)]
  · refine key (v / 256 ^ 1) (congrArg (fun s => b8 (wu8 s)) ?_)
    rw [wi64_of (by omega) (by omega)]
    show v.fdiv 256 = v / 256
    rw [Int.fdiv_eq_ediv_of_nonneg _ (by omega)]
  · refine key (v / 256 ^ 2) (congrArg (fun s => b8 (wu8 s)) ?_)
    rw [wi64_of (by omega) (by omega)]
    show v.fdiv 65536 = v / 65536
    rw [Int.fdiv_eq_ediv_of_nonneg _ (by omega)]
  · refine key (v / 256 ^ 3) (congrArg (fun s => b8 (wu8 s)) ?_)
    rw [wi64_of (by omega) (by omega)]
    show v.fdiv 16777216 = v / 16777216
    rw [Int.fdiv_eq_ediv_of_nonneg _ (by omega)]

theorem val_be1 {v : Int} (h : 0 ≤ v) (h2 : v < 256) : val (be 1 v) = v := by
  have e0 := i8_byteAt h 0 (by omega)
  show 0 * 256 + i8 (byteAt v 0) = v
  rw [e0]
  have : (256 : Int) ^ 0 = 1 := rfl
  rw [this]
  omega
theorem val_be2 {v : Int} (h : 0 ≤ v) (h2 : v < 65536) : val (be 2 v) = v := by
  have e0 := i8_byteAt h 0 (by omega)
  have e1 := i8_byteAt h 1 (by omega)
  show (0 * 256 + i8 (byteAt v 1)) * 256 + i8 (byteAt v 0) = v
  rw [e0, e1]
  have h0 : (256 : Int) ^ 0 = 1 := rfl
  have h1 : (256 : Int) ^ 1 = 256 := rfl
  rw [h0, h1]
  omega
theorem val_be4 {v : Int} (h : 0 ≤ v) (h2 : v < 4294967296) : val (be 4 v) = v := by
  have e0 := i8_byteAt h 0 (by omega)
  have e1 := i8_byteAt h 1 (by omega)
  have e2 := i8_byteAt h 2 (by omega)
  have e3 := i8_byteAt h 3 (by omega)
  show (((0 * 256 + i8 (byteAt v 3)) * 256 + i8 (byteAt v 2)) * 256 + i8 (byteAt v 1)) * 256 + i8 (byteAt v 0) = v
  rw [e0, e1, e2, e3]
  have h0 : (256 : Int) ^ 0 = 1 := rfl
  have h1 : (256 : Int) ^ 1 = 256 := rfl
  have h2 : (256 : Int) ^ 2 = 65536 := rfl
  have h3 : (256 : Int) ^ 3 = 16777216 := rfl
  rw [h0, h1, h2, h3]
  omega

theorem num_be {k : Nat} {v : Int} (h : val (be k v) = v) (s : List UInt8) : num k (be k v ++ s) = some (v, s) := by
  unfold num
  have e : (be k v).length = k := be_len k v
  rw [if_neg (by rw [List.length_append]; omega)]
  have h1 : (be k v ++ s).take k = be k v := by rw [List.take_append_of_le_length (by omega), List.take_of_length_le (by omega)]
  have h2 : (be k v ++ s).drop k = s := by rw [List.drop_append_of_le_length (by omega), List.drop_of_length_le (by omega)]; rfl
  rw [h1, h2, h]

theorem num1 {v : Int} (h : 0 ≤ v) (h2 : v < 256) (s : List UInt8) : num 1 (be 1 v ++ s) = some (v, s) := num_be (val_be1 h h2) s
theorem num4 {v : Int} (h : 0 ≤ v) (h2 : v < 4294967296) (s : List UInt8) : num 4 (be 4 v ++ s) = some (v, s) := num_be (val_be4 h h2) s

theorem text_txt (t s : List UInt8) (h : t.length ≤ 255) : text (txt t ++ s) = some (t, s) := by
  show text (b8 (t.length : Int) :: (t ++ s)) = _
  have e : (b8 (t.length : Int)).toNat = t.length := by
    have := i8_b8 (n := (t.length : Int)) (by omega) (by omega)
    unfold i8 at this
    omega
  rw [text_cons, e, if_neg (by rw [List.length_append]; omega), List.take_append_of_le_length (by omega), List.take_of_length_le (by omega), List.drop_append_of_le_length (by omega), List.drop_of_length_le (by omega)]
  rfl

/-! Longer bytes read the same at the front -/
theorem num_app {k : Nat} {b : List UInt8} {v : Int} {r : List UInt8} (h : num k b = some (v, r)) (s : List UInt8) : num k (b ++ s) = some (v, r ++ s) := by
  obtain ⟨h1, _, _, h4, h5⟩ := num_parts h
  unfold num
  rw [if_neg (by rw [List.length_append]; omega), List.take_append_of_le_length (by omega), List.drop_append_of_le_length (by omega), ← h4, ← h5]

theorem text_app {b t r : List UInt8} (h : text b = some (t, r)) (s : List UInt8) : text (b ++ s) = some (t, r ++ s) := by
  cases b with
  | nil => cases h
  | cons x q =>
    rw [text_cons] at h
    by_cases hl : q.length < x.toNat
    · rw [if_pos hl] at h; cases h
    · rw [if_neg hl] at h
      cases h
      rw [List.cons_append, text_cons, if_neg (by rw [List.length_append]; omega), List.take_append_of_le_length (by omega), List.drop_append_of_le_length (by omega)]

theorem pWrites_app : ∀ (n : Nat) (b : List UInt8) (l l' : List TWrite) (r s : List UInt8), pWrites n b l = some (l', r) → pWrites n (b ++ s) l = some (l', r ++ s)
  | 0, b, l, l', r, s, h => by cases h; rfl
  | n + 1, b, l, l', r, s, h => by
    simp only [pWrites, Option.bind_eq_some_iff] at h ⊢
    obtain ⟨o, h1, t, h2, h3⟩ := h
    exact ⟨(o.1, o.2 ++ s), num_app h1 s, (t.1, t.2 ++ s), text_app h2 s, pWrites_app n _ _ _ _ s h3⟩

theorem pAsk_app {b : List UInt8} {a : TAsk} {r : List UInt8} (h : pAsk b = some (a, r)) (s : List UInt8) : pAsk (b ++ s) = some (a, r ++ s) := by
  unfold pAsk at h ⊢
  simp only [Option.bind_eq_some_iff] at h ⊢
  obtain ⟨p1, h1, p2, h2, p3, h3, p4, h4, p5, h5, p6, h6, p7, h7, p8, h8, p9, h9, h10⟩ := h
  cases h10
  exact ⟨(p1.1, p1.2 ++ s), num_app h1 s, (p2.1, p2.2 ++ s), num_app h2 s, (p3.1, p3.2 ++ s), num_app h3 s, (p4.1, p4.2 ++ s), num_app h4 s, (p5.1, p5.2 ++ s), text_app h5 s, (p6.1, p6.2 ++ s), num_app h6 s, (p7.1, p7.2 ++ s), num_app h7 s, (p8.1, p8.2 ++ s), num_app h8 s, (p9.1, p9.2 ++ s), pWrites_app _ _ _ _ _ s h9, rfl⟩

theorem pTell_app {b : List UInt8} {a : TTell} {r : List UInt8} (h : pTell b = some (a, r)) (s : List UInt8) : pTell (b ++ s) = some (a, r ++ s) := by
  unfold pTell at h ⊢
  simp only [Option.bind_eq_some_iff] at h ⊢
  obtain ⟨p1, h1, p2, h2, p3, h3, p4, h4, p5, h5, p6, h6, p7, h7, p8, h8, p9, h9, h10⟩ := h
  cases h10
  exact ⟨(p1.1, p1.2 ++ s), num_app h1 s, (p2.1, p2.2 ++ s), num_app h2 s, (p3.1, p3.2 ++ s), num_app h3 s, (p4.1, p4.2 ++ s), num_app h4 s, (p5.1, p5.2 ++ s), num_app h5 s, (p6.1, p6.2 ++ s), num_app h6 s, (p7.1, p7.2 ++ s), num_app h7 s, (p8.1, p8.2 ++ s), num_app h8 s, (p9.1, p9.2 ++ s), text_app h9 s, rfl⟩

/-! One turned byte -/
theorem tn_inj {m m' : Nat} (h : m < 65536) (h' : m' < 65536) (e : tn m = tn m') : m = m' := by
  have cross : ∀ {x y : Nat}, x < 32768 → y < 32768 → x ^^^ 40961 = y → False := by
    intro x y hx hy hxy
    have h1 : x ^^^ y = 40961 := by rw [← hxy, ← Nat.xor_assoc, Nat.xor_self, Nat.zero_xor]
    have h2 := Nat.xor_lt_two_pow (n := 15) (show x < 2 ^ 15 by omega) (show y < 2 ^ 15 by omega)
    omega
  unfold tn at e
  by_cases h1 : m % 2 = 1
  · rw [if_pos h1] at e
    by_cases h2 : m' % 2 = 1
    · rw [if_pos h2] at e
      have : m / 2 = m' / 2 := by
        have := congrArg (· ^^^ 40961) e
        simp only [Nat.xor_assoc, Nat.xor_self, Nat.xor_zero] at this
        exact this
      omega
    · rw [if_neg h2] at e
      exact (cross (by omega) (by omega) e).elim
  · rw [if_neg h1] at e
    by_cases h2 : m' % 2 = 1
    · rw [if_pos h2] at e
      exact (cross (by omega) (by omega) e.symm).elim
    · rw [if_neg h2] at e
      omega

theorem tn8_inj {m m' : Nat} (h : m < 65536) (h' : m' < 65536) (e : tn (tn (tn (tn (tn (tn (tn (tn m))))))) = tn (tn (tn (tn (tn (tn (tn (tn m')))))))) : m = m' := by
  have l1 := tn_lt h; have l2 := tn_lt l1; have l3 := tn_lt l2; have l4 := tn_lt l3; have l5 := tn_lt l4; have l6 := tn_lt l5; have l7 := tn_lt l6
  have k1 := tn_lt h'; have k2 := tn_lt k1; have k3 := tn_lt k2; have k4 := tn_lt k3; have k5 := tn_lt k4; have k6 := tn_lt k5; have k7 := tn_lt k6
  exact tn_inj h h' (tn_inj l1 k1 (tn_inj l2 k2 (tn_inj l3 k3 (tn_inj l4 k4 (tn_inj l5 k5 (tn_inj l6 k6 (tn_inj l7 k7 e)))))))

theorem xor_right_inj {a b c : Nat} (h : c ^^^ a = c ^^^ b) : a = b := by
  have := congrArg (c ^^^ ·) h
  simp only [← Nat.xor_assoc, Nat.xor_self, Nat.zero_xor] at this
  exact this

theorem crcByte_inj_u {m : Nat} (h : m < 65536) {u u' : UInt8} (e : crcByte m u = crcByte m u') : u = u' :=
  UInt8.toNat_inj.1 (xor_right_inj (tn8_inj (xor_lt h u) (xor_lt h u') e))

theorem crcByte_inj_m {m m' : Nat} (h : m < 65536) (h' : m' < 65536) {u : UInt8} (e : crcByte m u = crcByte m' u) : m = m' := by
  have := tn8_inj (xor_lt h u) (xor_lt h' u) e
  rw [Nat.xor_comm m, Nat.xor_comm m'] at this
  exact xor_right_inj this

theorem crc_fold_inj : ∀ (l : List UInt8) {m m' : Nat}, m < 65536 → m' < 65536 → l.foldl crcByte m = l.foldl crcByte m' → m = m'
  | [], m, m', _, _, e => e
  | u :: r, m, m', h, h', e => crcByte_inj_m h h' (crc_fold_inj r (crcByte_lt h u) (crcByte_lt h' u) e)

theorem crc_turned : ∀ (l : List UInt8) (m j : Nat) (y y' : UInt8), m < 65536 → l[j]? = some y → y' ≠ y → (l.set j y').foldl crcByte m ≠ l.foldl crcByte m
  | [], m, j, y, y', _, hy, _ => by simp at hy
  | u :: r, m, 0, y, y', h, hy, hne => by
    simp at hy
    subst hy
    intro e
    exact hne (crcByte_inj_u h (crc_fold_inj r (crcByte_lt h _) (crcByte_lt h _) e))
  | u :: r, m, j + 1, y, y', h, hy, hne => by
    intro e
    exact crc_turned r (crcByte m u) j y y' (crcByte_lt h u) (by simpa using hy) hne e

/-- Sealed bytes with one byte turned are no sealed bytes. -/
theorem seal_turned {p q : List UInt8} {j : Nat} {y y' : UInt8} (hy : (sealB p)[j]? = some y) (hne : y' ≠ y) (e : (sealB p).set j y' = sealB q) : False := by
  have hl : p.length = q.length := by
    have := congrArg List.length e
    rw [List.length_set, sealB_len, sealB_len] at this
    omega
  unfold sealB at hy e
  have hj : j < p.length + 2 := by
    have := at_of hy
    rw [List.length_append, be_len] at this
    exact this
  by_cases hjp : j < p.length
  · rw [List.set_append_left _ _ hjp] at e
    obtain ⟨e1, e2⟩ := List.append_inj e (by rw [List.length_set]; exact hl)
    have hy' : p[j]? = some y := by rw [List.getElem?_append_left hjp] at hy; exact hy
    have hc : crcN p = crcN q := by
      have h1 := congrArg val e2
      have l1 := crcN_lt p
      have l2 := crcN_lt q
      rw [val_be2 (by omega) (by omega), val_be2 (by omega) (by omega)] at h1
      omega
    rw [← e1] at hc
    exact crc_turned p 0 j y y' (by omega) hy' hne hc.symm
  · have h1 : j ≥ p.length := by omega
    rw [List.set_append_right _ _ h1] at e
    obtain ⟨e1, e2⟩ := List.append_inj e hl
    subst e1
    rw [List.getElem?_append_right h1] at hy
    have h2 : ((be 2 (crcN p : Int)).set (j - p.length) y')[j - p.length]? = (be 2 (crcN p : Int))[j - p.length]? := by rw [e2]
    rw [List.getElem?_set_self (at_of hy), hy] at h2
    exact hne (Option.some.inj h2)

theorem bxor_u8 (x y : UInt8) : b8 (bxor .u8 (i8 x) (i8 y)) = x ^^^ y := by
  unfold bxor i8
  have h8 : IntKind.u8.bits = 8 := rfl
  have hx := x.toNat_lt
  have hy := y.toNat_lt
  rw [h8, BitVec.ofInt_natCast, BitVec.ofInt_natCast, BitVec.toNat_xor, BitVec.toNat_ofNat, BitVec.toNat_ofNat, Nat.mod_eq_of_lt (show x.toNat < 2 ^ 8 by omega), Nat.mod_eq_of_lt (show y.toNat < 2 ^ 8 by omega), IntKind.wrap_u8]
  have hlt := Nat.xor_lt_two_pow (n := 8) hx hy
  have e : (((x.toNat ^^^ y.toNat : Nat) : Int) % 256) = ((x.toNat ^^^ y.toNat : Nat) : Int) := by omega
  rw [e]
  unfold b8
  rw [Int.toNat_natCast, ← UInt8.toNat_xor, UInt8.ofNat_toNat]

theorem turned_ne {x y : UInt8} (h : i8 y ≠ 0) : b8 (bxor .u8 (i8 x) (i8 y)) ≠ x := by
  rw [bxor_u8]
  intro e
  have h1 := congrArg UInt8.toNat e
  rw [UInt8.toNat_xor] at h1
  have h2 : x.toNat ^^^ y.toNat = x.toNat ^^^ 0 := by rw [h1, Nat.xor_zero]
  have h3 := xor_right_inj h2
  apply h
  unfold i8
  omega

end Go.Proofs.YtddhfdbfackahaaDoor.N

set_option linter.unusedVariables false
set_option linter.unusedSimpArgs false
namespace Go.Proofs.YtddhfdbfackahaaDoor.N
open Go

def pok (p : Ttenancymade_Picks) : Prop := 0 ≤ p.n ∧ p.n ≤ 1000 ∧ p.l.length ≤ 1000

theorem sameAsk_mk (k f e s : Int) (nm : List UInt8) (fl m : Int) (ws : List TWrite) : sameAsk ⟨k, f, e, s, nm, fl, m, ws⟩ ⟨k, f, e, s, nm, fl, m, ws⟩ = true := sameAsk_refl _

/-! More on loops and whole numbers -/
theorem iter_inv {V X : Type} {step : V → Option (V ⊕ X)} (I : Nat → V → Prop) (Q : X → Prop)
    (h : ∀ k v, I k v → ∃ o, step v = some o ∧ Sum.elim (fun v' => ∃ k', k' < k ∧ I k' v') Q o) :
    ∀ (k : Nat) (v : V) (n : Nat), I k v → k < n → ∃ x, iter step n v = some x ∧ Q x := by
  intro k
  induction k using Nat.strongRecOn with
  | _ k ih =>
    intro v n hi hn
    obtain ⟨o, ho, hq⟩ := h k v hi
    cases n with
    | zero => omega
    | succ n =>
      rw [iter_succ, ho]
      cases o with
      | inl v' =>
        obtain ⟨k', h1, h2⟩ := hq
        exact ih k' h1 v' n h2 (by omega)
      | inr x => exact ⟨x, rfl, hq⟩

theorem beq_of {α : Type} [BEq α] [LawfulBEq α] {a b : α} (h : a = b) : (a == b) = true := by rw [h]; exact beq_self_eq_true b

theorem beq_ne {α : Type} [BEq α] [LawfulBEq α] {a b : α} (h : a ≠ b) : (a == b) = false := by
  cases hb : a == b with
  | false => rfl
  | true => exact absurd (eq_of_beq hb) h

theorem cut_mid {α : Type} (b : List α) (i k : Nat) : cutL b (i : Int) ((i + k : Nat) : Int) = (b.drop i).take k := by
  unfold cutL
  rw [Int.toNat_natCast, Int.toNat_natCast, List.drop_take]
  congr 1
  omega

theorem ne_int {n : Nat} {k : Int} (h : (n : Int) ≠ k) : ((n : Int) != k) = true := by simp [h]

theorem eq_int {n : Nat} {k : Int} (h : (n : Int) = k) : ((n : Int) != k) = false := by simp [h]

theorem b8_nat {n : Nat} (h : n ≤ 255) : (b8 (n : Int)).toNat = n := by
  have := i8_b8 (n := (n : Int)) (by omega) (by omega)
  unfold i8 at this
  omega

end Go.Proofs.YtddhfdbfackahaaDoor.N

set_option linter.unusedVariables false
set_option linter.unusedSimpArgs false
namespace Go.Proofs.YtddhfdbfackahaaDoor.N
open Go

def zeros : List UInt8 := [0, 0, 0, 0, 0, 0, 0, 0, 0, 0, 0, 0, 0, 0, 0, 0, 0, 0, 0, 0, 0, 0, 0, 0, 0, 0, 0, 0, 0, 0, 0, 0]
theorem zeros_eq : zeros = List.replicate 32 0 := rfl

def okP (n : Nat) (p : TPut) : Prop := 0 ≤ p.At ∧ p.At < n ∧ p.B.length = 32
structure DOk (d : TDisk) : Prop where
  last : ∀ x ∈ d.Last, x.length = 32
  len : d.Last.length ≤ 1000
  wait : ∀ p ∈ d.Wait, okP d.Last.length p
  wlen : d.Wait.length ≤ 1000
  a0 : 0 ≤ d.Arm
  a1 : d.Arm ≤ 1000

def wput (d : TDisk) (p : TPut) : TDisk := if d.Arm > 0 then ⟨d.Last, d.Wait ++ [p], d.Arm - 1, d.Arm - 1 == 0⟩ else ⟨d.Last, d.Wait ++ [p], d.Arm, d.Down⟩
def wr (L : List (List UInt8)) (ws : List TPut) : List (List UInt8) := ws.foldl (fun L p => L.set p.At.toNat p.B) L
def flushed (d : TDisk) : TDisk := ⟨wr d.Last d.Wait, [], d.Arm, d.Down⟩

theorem wput_last (d : TDisk) (p : TPut) : (wput d p).Last = d.Last := by unfold wput; split <;> rfl
theorem wput_wait (d : TDisk) (p : TPut) : (wput d p).Wait = d.Wait ++ [p] := by unfold wput; split <;> rfl

theorem Write_ok (d : TDisk) (hd : DOk d) (hw : d.Wait.length < 1000) (hdn : d.Down = false) (i : Int) (b : List UInt8) (hp : okP d.Last.length ⟨i, b⟩) : disk_Write d i b = some (wput d ⟨i, b⟩, !(wput d ⟨i, b⟩).Down) := by
  obtain ⟨h0, h1, h2⟩ := hp
  simp only at h0 h1 h2
  have ha0 := hd.a0
  have ha1 := hd.a1
  unfold disk_Write disk_Write_k
  have ht : disk_there d i = true := by
    unfold disk_there disk_there_k
    rw [hdn, decide_eq_true (show i ≥ 0 from h0), decide_eq_true h1]
    rfl
  rw [ht, h2, decide_eq_true (show d.Wait.length + 1 ≤ lim by rw [lim_eq]; omega), wi64_of (show -9223372036854775808 ≤ d.Arm - 1 by omega) (by omega)]
  unfold wput
  by_cases ha : d.Arm > 0
  · rw [decide_eq_true ha, if_pos ha]; rfl
  · rw [decide_eq_false ha, if_neg ha]; rfl

theorem wput_ok {d : TDisk} (hd : DOk d) (hw : d.Wait.length < 1000) {p : TPut} (hp : okP d.Last.length p) : DOk (wput d p) := by
  refine ⟨by rw [wput_last]; exact hd.last, by rw [wput_last]; exact hd.len, ?_, by rw [wput_wait]; simp; omega, ?_, ?_⟩
  · rw [wput_last, wput_wait]
    intro q hq
    rcases List.mem_append.1 hq with hq | hq
    · exact hd.wait q hq
    · rw [List.mem_singleton.1 hq]; exact hp
  · have := hd.a0
    unfold wput
    split
    · show 0 ≤ d.Arm - 1; omega
    · exact this
  · have := hd.a1
    unfold wput
    split
    · show d.Arm - 1 ≤ 1000; omega
    · exact this

def wout (d : TDisk) : Tjrnl_writer ⊕ Tjrnl_writer := bif d.Down then .inr ⟨d⟩ else .inl ⟨d⟩
theorem write2_ok (d : TDisk) (hd : DOk d) (hw : d.Wait.length < 1000) (hdn : d.Down = false) (i : Int) (b : List UInt8) (hp : okP d.Last.length ⟨i, b⟩) : jrnl_writer_write_2 i b ⟨d⟩ = some (wout (wput d ⟨i, b⟩)) := by
  unfold jrnl_writer_write_2 jrnl_writer_write_2_k
  rw [Write_ok d hd hw hdn i b hp, some_bind]
  unfold jrnl_writer_does_2 jrnl_writer_does_2_k wout
  cases (wput d ⟨i, b⟩).Down <;> rfl
theorem write1_ok (d : TDisk) (hd : DOk d) (hw : d.Wait.length < 1000) (hdn : d.Down = false) (i : Int) (b : List UInt8) (hp : okP d.Last.length ⟨i, b⟩) : jrnl_writer_write i b ⟨d⟩ = some (bif (wput d ⟨i, b⟩).Down then .inr (⟨wput d ⟨i, b⟩⟩, d.Last, d.Wait) else .inl (⟨wput d ⟨i, b⟩⟩, d.Last, d.Wait)) := by
  unfold jrnl_writer_write jrnl_writer_write_k
  rw [Write_ok d hd hw hdn i b hp, some_bind]
  unfold jrnl_writer_does jrnl_writer_does_k
  cases (wput d ⟨i, b⟩).Down <;> rfl

/-! Flush -/
theorem wr_len (ws : List TPut) : ∀ L : List (List UInt8), (wr L ws).length = L.length := by
  induction ws with
  | nil => intro L; rfl
  | cons p r ih => intro L; show (wr (L.set p.At.toNat p.B) r).length = _; rw [ih, List.length_set]
theorem wr_each (ws : List TPut) : ∀ L : List (List UInt8), (∀ x ∈ L, x.length = 32) → (∀ p ∈ ws, p.B.length = 32) → ∀ x ∈ wr L ws, x.length = 32 := by
  induction ws with
  | nil => intro L h _; exact h
  | cons p r ih =>
    intro L h hp
    refine ih _ (fun x hx => ?_) (fun q hq => hp q (List.mem_cons_of_mem _ hq))
    rcases List.mem_or_eq_of_mem_set hx with hx | rfl
    · exact h x hx
    · exact hp p (List.mem_cons_self ..)
theorem wr_app (L : List (List UInt8)) (a b : List TPut) : wr L (a ++ b) = wr (wr L a) b := List.foldl_append ..

theorem lasts32 (p : TPut) (d : TDisk) (hl : ∀ x ∈ d.Last, x.length = 32) (hp : okP d.Last.length p) : disk_lasting_lasts p 32 ⟨d⟩ = some ⟨⟨d.Last.set p.At.toNat p.B, d.Wait, d.Arm, d.Down⟩⟩ := by
  obtain ⟨h0, h1, h2⟩ := hp
  have hlt : p.At.toNat < d.Last.length := by omega
  have hy := hl _ (List.getElem_mem hlt)
  unfold disk_lasting_lasts disk_lasting_lasts_k
  rw [decide_eq_false (show ¬ p.At < 0 by omega), decide_eq_false (show ¬ p.At ≥ (d.Last.length : Int) by omega), inR_of h0 h1, List.getElem?_eq_getElem hlt]
  simp only [cond_true, cond_false, some_bind]
  rw [h2, hy]
  have hm : imax (imin (imin 32 ((32 : Nat) : Int)) ((32 : Nat) : Int)) 0 = ((32 : Nat) : Int) := by decide
  rw [hm, cutOk_of (by omega) (by omega) (by omega), cut_front]
  have hc : cutL d.Last[p.At.toNat] ((32 : Nat) : Int) ((32 : Nat) : Int) = [] := by
    unfold cutL
    rw [List.drop_of_length_le (by rw [List.length_take]; exact Nat.min_le_left _ _)]
  rw [hc, List.take_of_length_le (by omega), decide_eq_true (show p.B.length + ([] : List UInt8).length ≤ lim by rw [h2, lim_eq]; simp), List.append_nil]
  rfl

theorem flush_loop (o : TDisk) (t : TDisk) (L0 : List (List UInt8)) (ws : List TPut) (d : TDisk) (hd : ∀ x ∈ d.Last, x.length = 32) (hw : ∀ p ∈ ws, okP d.Last.length p) (hl : ws.length ≤ 1000) :
    ∃ o', disk_Flush_l0 fuel ws (ws.length : Int) o 0 t ⟨d⟩ = some (o', ⟨⟨wr d.Last ws, d.Wait, d.Arm, d.Down⟩⟩) := by
  unfold disk_Flush_l0
  obtain ⟨x, e, hx⟩ := iter_inv (step := disk_Flush_s0 ws (ws.length : Int) o) (fun k v => ∃ i : Nat, v.1 = (i : Int) ∧ i + k = ws.length ∧ v.2.2 = ⟨⟨wr d.Last (ws.take i), d.Wait, d.Arm, d.Down⟩⟩) (fun r => r.2 = ⟨⟨wr d.Last ws, d.Wait, d.Arm, d.Down⟩⟩) (fun k v hI => by
    obtain ⟨v1, v2, v3⟩ := v
    obtain ⟨i, h1, hk, h2⟩ := hI
    simp only at h1 h2
    subst h1 h2
    simp only [disk_Flush_s0, disk_Flush_s0k]
    by_cases hlt : i < ws.length
    · rw [lt_dec hlt, inR_nat hlt, Int.toNat_natCast, List.getElem?_eq_getElem hlt]
      simp only [cond_true, some_bind]
      rw [lasts32 ws[i] _ (wr_each _ _ hd (fun p hp => (hw p (List.mem_of_mem_take hp)).2.2)) (by show okP (wr d.Last (ws.take i)).length ws[i]; rw [wr_len]; exact hw _ (List.getElem_mem hlt)), some_bind, wi64_succ (by omega)]
      refine ⟨_, rfl, k - 1, by omega, i + 1, rfl, by omega, ?_⟩
      rw [List.take_add_one, List.getElem?_eq_getElem hlt, wr_app]
      rfl
    · obtain rfl : i = ws.length := by omega
      rw [ge_dec]
      exact ⟨_, rfl, by rw [List.take_length]; rfl⟩) ws.length (0, t, ⟨d⟩) fuel ⟨0, rfl, by omega, rfl⟩ (fuel_gt (by omega))
  exact ⟨x.1, by rw [e, ← hx]⟩

theorem Flush_ok (d : TDisk) (hd : DOk d) (hdn : d.Down = false) : disk_Flush fuel d = some (flushed d, true) := by
  unfold disk_Flush disk_Flush_k
  rw [hdn]
  obtain ⟨o', e⟩ := flush_loop d (TDisk.mk [] [] 0 false) d.Last d.Wait d hd.last hd.wait hd.wlen
  simp only [cond_false]
  rw [e, some_bind]
  unfold flushed
  rw [hdn]
theorem flush_ok {d : TDisk} (hd : DOk d) : DOk (flushed d) := by
  refine ⟨wr_each _ _ hd.last (fun p hp => (hd.wait p hp).2.2), by show (wr d.Last d.Wait).length ≤ 1000; rw [wr_len]; exact hd.len, (fun p hp => nomatch hp), by show (0 : Nat) ≤ 1000; omega, hd.a0, hd.a1⟩
theorem wflush_ok (d : TDisk) (hd : DOk d) (hdn : d.Down = false) : jrnl_writer_flush fuel ⟨d⟩ = some (.inl ⟨flushed d⟩) := by
  unfold jrnl_writer_flush jrnl_writer_flush_k
  rw [Flush_ok d hd hdn, some_bind]
  rfl

/-! Many writes -/
def wmany (d : TDisk) : List TPut → TDisk × Bool
  | [] => (d, true)
  | p :: r => bif (wput d p).Down then (wput d p, false) else wmany (wput d p) r

theorem wmany_all : ∀ (ws : List TPut) (d : TDisk), d.Down = false → 0 ≤ d.Arm → (d.Arm = 0 ∨ (ws.length : Int) < d.Arm) → wmany d ws = (⟨d.Last, d.Wait ++ ws, if d.Arm = 0 then 0 else d.Arm - ws.length, false⟩, true)
  | [], d, hdn, h0, _ => by
    obtain ⟨L, W, A, D⟩ := d
    simp only at hdn h0
    subst hdn
    unfold wmany
    simp only [List.append_nil, List.length_nil]
    by_cases hA : A = 0
    · rw [if_pos hA, hA]
    · rw [if_neg hA]; simp
  | p :: r, d, hdn, h0, h => by
    rw [List.length_cons] at h
    have hnd : (wput d p).Down = false := by
      unfold wput
      by_cases ha : d.Arm > 0
      · rw [if_pos ha]; show (d.Arm - 1 == 0) = false; exact beq_ne (by omega)
      · rw [if_neg ha]; exact hdn
    have harm : (wput d p).Arm = if d.Arm = 0 then 0 else d.Arm - 1 := by
      unfold wput
      by_cases ha : d.Arm > 0
      · rw [if_pos ha, if_neg (by omega)]
      · rw [if_neg ha, if_pos (by omega)]; show d.Arm = 0; omega
    rw [wmany, hnd, cond_false, wmany_all r _ hnd (by rw [harm]; split <;> omega) (by rw [harm]; split <;> omega), wput_last, wput_wait, harm, List.append_assoc, List.length_cons]
    congr 2
    split
    · simp
    · rw [if_neg (by omega)]; omega

theorem wmany_cut : ∀ (ws : List TPut) (d : TDisk), d.Down = false → 1 ≤ d.Arm → d.Arm ≤ (ws.length : Int) → wmany d ws = (⟨d.Last, d.Wait ++ ws.take d.Arm.toNat, 0, true⟩, false)
  | [], d, _, h1, h2 => by simp at h2; omega
  | p :: r, d, hdn, h1, h2 => by
    rw [List.length_cons] at h2
    rw [wmany]
    by_cases ha : d.Arm = 1
    · have : wput d p = ⟨d.Last, d.Wait ++ [p], 0, true⟩ := by unfold wput; rw [if_pos (by omega), ha]; rfl
      rw [this, ha]
      rfl
    · have hw : wput d p = ⟨d.Last, d.Wait ++ [p], d.Arm - 1, false⟩ := by
        unfold wput; rw [if_pos (by omega)]
        congr 1
        exact beq_ne (by omega)
      rw [hw, cond_false, wmany_cut r _ rfl (by show 1 ≤ d.Arm - 1; omega) (by show d.Arm - 1 ≤ _; omega)]
      show (TDisk.mk d.Last (d.Wait ++ [p] ++ r.take (d.Arm - 1).toNat) 0 true, false) = _
      rw [List.append_assoc, show d.Arm.toNat = (d.Arm - 1).toNat + 1 by omega]
      rfl

theorem wmany_down : ∀ (ws : List TPut) (d : TDisk), d.Down = false → ((wmany d ws).2 = true ∧ (wmany d ws).1.Down = false) ∨ ((wmany d ws).2 = false ∧ (wmany d ws).1.Down = true)
  | [], d, h => .inl ⟨rfl, h⟩
  | p :: r, d, h => by
    rw [wmany]
    cases hp : (wput d p).Down with
    | true => exact .inr ⟨rfl, hp⟩
    | false => exact wmany_down r _ hp
theorem wmany_ok : ∀ (ws : List TPut) (d : TDisk), DOk d → d.Wait.length + ws.length ≤ 1000 → (∀ p ∈ ws, okP d.Last.length p) → DOk (wmany d ws).1
  | [], d, h, _, _ => h
  | p :: r, d, h, hl, hp => by
    rw [List.length_cons] at hl
    have h1 := wput_ok h (by omega) (hp p (List.mem_cons_self ..))
    rw [wmany]
    cases (wput d p).Down with
    | true => exact h1
    | false => exact wmany_ok r _ h1 (by rw [wput_wait]; simp; omega) (fun q hq => by rw [wput_last]; exact hp q (List.mem_cons_of_mem _ hq))
end Go.Proofs.YtddhfdbfackahaaDoor.N

set_option linter.unusedVariables false
set_option linter.unusedSimpArgs false
namespace Go.Proofs.YtddhfdbfackahaaDoor.N
open Go

structure Valid (home : Nat) (l : List TPut) : Prop where
  len : l.length ≤ 16
  each : ∀ p ∈ l, okP home p
  sorted : l.Pairwise fun p q => p.At < q.At

theorem may_ok (d : TDisk) (home : Nat) (l : List TPut) (hv : Valid home l) (hn : home + l.length < d.Last.length) (hN : d.Last.length ≤ 1000) : jrnl_may fuel d (home : Int) l = some true := by
  unfold jrnl_may jrnl_may_k jrnl_may_l0
  have hlen := hv.len
  obtain ⟨x, e, hx⟩ := iter_inv (step := jrnl_may_s0 (home : Int) l l (l.length : Int) d) (fun k v => ∃ i : Nat, v.2 = (i : Int) ∧ i + k = l.length ∧ ∀ p ∈ l.drop i, v.1 < p.At) (fun r => r = .inr ()) (fun k v hI => by
    obtain ⟨v1, v2⟩ := v
    obtain ⟨i, h1, hk, h2⟩ := hI
    simp only at h1 h2
    subst h1
    simp only [jrnl_may_s0, jrnl_may_s0k]
    by_cases hlt : i < l.length
    · have hdr : l.drop i = l[i] :: l.drop (i + 1) := List.drop_eq_getElem_cons hlt
      have hs := hv.sorted.sublist (List.drop_sublist i l)
      rw [hdr] at h2 hs
      obtain ⟨g0, g1, g2⟩ := hv.each _ (List.getElem_mem hlt)
      have g3 := h2 _ (List.mem_cons_self ..)
      rw [lt_dec hlt, inR_nat hlt, Int.toNat_natCast, List.getElem?_eq_getElem hlt]
      simp only [cond_true, some_bind]
      rw [decide_eq_false (show ¬ l[i].At ≤ v1 by omega), decide_eq_false (show ¬ l[i].At ≥ (home : Int) by omega), g2, wi64_succ (by omega)]
      exact ⟨_, rfl, k - 1, by omega, i + 1, rfl, by omega, fun p hp => List.rel_of_pairwise_cons hs hp⟩
    · obtain rfl : i = l.length := by omega
      rw [ge_dec]
      exact ⟨_, rfl, rfl⟩) l.length (-1, 0) fuel ⟨0, rfl, by omega, fun p hp => by have := (hv.each p hp).1; show (-1 : Int) < p.At; omega⟩ (fuel_gt (by omega))
  rw [e, hx, some_bind]
  simp only [alt_inr]
  rw [decide_eq_true (show (l.length : Int) ≤ 16 by omega), wi64_of (by omega) (by omega), decide_eq_true (show (home : Int) + (l.length : Int) < (d.Last.length : Int) by omega)]
  rfl

/-! The head -/
def headB (l : List TPut) : List UInt8 := 1 :: b8 (l.length : Int) :: (l.map (fun p => b8 p.At) ++ (List.replicate (29 - l.length) 0 ++ [1]))
theorem headB_len (l : List TPut) (h : l.length ≤ 16) : (headB l).length = 32 := by
  unfold headB
  simp only [List.length_cons, List.length_append, List.length_map, List.length_replicate, List.length_nil]
  omega
def headS (l : List TPut) (i : Nat) : List UInt8 := 1 :: b8 (l.length : Int) :: ((l.take i).map (fun p => b8 p.At) ++ (List.replicate (29 - i) 0 ++ [1]))

theorem headS_step (l : List TPut) (i : Nat) (h : i < l.length) (h16 : l.length ≤ 16) : (headS l i).set (2 + i) (b8 l[i].At) = headS l (i + 1) := by
  unfold headS
  rw [show 2 + i = i + 1 + 1 by omega, List.set_cons_succ, List.set_cons_succ]
  congr 2
  rw [List.set_append_right _ _ (by rw [List.length_map, List.length_take]; omega), List.length_map, List.length_take, show i - min i l.length = 0 by omega, show 29 - i = (29 - (i + 1)) + 1 by omega, List.replicate_succ, List.cons_append, List.set_cons_zero, List.take_add_one, List.getElem?_eq_getElem h, List.map_append, List.append_assoc]
  rfl

theorem head_ok (l : List TPut) (h16 : l.length ≤ 16) (hp : ∀ p ∈ l, 0 ≤ p.At ∧ p.At < 256) : jrnl_head fuel l = some (headB l) := by
  unfold jrnl_head jrnl_head_k
  have e0 : (([0, 0, 0, 0, 0, 0, 0, 0, 0, 0, 0, 0, 0, 0, 0, 0, 0, 0, 0, 0, 0, 0, 0, 0, 0, 0, 0, 0, 0, 0, 0, 0] : List Nat).set 0 1)[1]? = some 0 := rfl
  have e1 : ((([0, 0, 0, 0, 0, 0, 0, 0, 0, 0, 0, 0, 0, 0, 0, 0, 0, 0, 0, 0, 0, 0, 0, 0, 0, 0, 0, 0, 0, 0, 0, 0] : List UInt8).set 0 1).set 1 (b8 (wu8 (l.length : Int))))[31]? = some 0 := rfl
  have e2 : inR 1 (([0, 0, 0, 0, 0, 0, 0, 0, 0, 0, 0, 0, 0, 0, 0, 0, 0, 0, 0, 0, 0, 0, 0, 0, 0, 0, 0, 0, 0, 0, 0, 0] : List Nat).set 0 1).length = true := rfl
  have e3 : inR 31 ((([0, 0, 0, 0, 0, 0, 0, 0, 0, 0, 0, 0, 0, 0, 0, 0, 0, 0, 0, 0, 0, 0, 0, 0, 0, 0, 0, 0, 0, 0, 0, 0] : List UInt8).set 0 1).set 1 (b8 (wu8 (l.length : Int)))).length = true := rfl
  rw [e2, e0, e3, e1]
  simp only [cond_true, some_bind]
  have e4 : ((([0, 0, 0, 0, 0, 0, 0, 0, 0, 0, 0, 0, 0, 0, 0, 0, 0, 0, 0, 0, 0, 0, 0, 0, 0, 0, 0, 0, 0, 0, 0, 0] : List UInt8).set 0 1).set 1 (b8 (wu8 (l.length : Int)))).set 31 1 = headS l 0 := by
    rw [wu8_of (by omega) (by omega)]
    rfl
  rw [e4]
  unfold jrnl_head_l0
  obtain ⟨x, e, hx⟩ := iter_inv (step := jrnl_head_s0 l (l.length : Int)) (fun k v => ∃ i : Nat, v.1 = (i : Int) ∧ i + k = l.length ∧ v.2 = headS l i) (fun r => r = headB l) (fun k v hI => by
    obtain ⟨v1, v2⟩ := v
    obtain ⟨i, h1, hk, h2⟩ := hI
    simp only at h1 h2
    subst h1 h2
    simp only [jrnl_head_s0, jrnl_head_s0k]
    by_cases hlt : i < l.length
    · obtain ⟨g0, g1⟩ := hp _ (List.getElem_mem hlt)
      have hlen : 2 + i < (headS l i).length := by
        unfold headS
        simp only [List.length_cons, List.length_append, List.length_map, List.length_replicate, List.length_nil, List.length_take]
        omega
      rw [lt_dec hlt, inR_nat hlt, Int.toNat_natCast, List.getElem?_eq_getElem hlt]
      simp only [cond_true, some_bind]
      rw [wi64_of (show -9223372036854775808 ≤ 2 + (i : Int) by omega) (by omega), show 2 + (i : Int) = ((2 + i : Nat) : Int) by omega, inR_nat hlen, Int.toNat_natCast, List.getElem?_eq_getElem hlen]
      simp only [cond_true, some_bind]
      rw [wu8_of g0 g1, headS_step l i hlt h16, wi64_succ (by omega)]
      exact ⟨_, rfl, k - 1, by omega, i + 1, rfl, by omega, rfl⟩
    · obtain rfl : i = l.length := by omega
      rw [ge_dec]
      refine ⟨_, rfl, ?_⟩
      unfold headS headB
      rw [List.take_length]
      rfl) l.length (0, headS l 0) fuel ⟨0, rfl, by omega, rfl⟩ (fuel_gt (by omega))
  rw [e, hx]
  rfl

/-! The commit -/
def copies : Nat → List TPut → List TPut
  | _, [] => []
  | n, p :: r => ⟨(n : Int), p.B⟩ :: copies (n + 1) r
theorem copies_len : ∀ (n : Nat) (l : List TPut), (copies n l).length = l.length
  | _, [] => rfl
  | n, p :: r => by rw [copies, List.length_cons, List.length_cons, copies_len]
theorem copies_at : ∀ (n : Nat) (l : List TPut) (q : TPut), q ∈ copies n l → ∃ p ∈ l, (n : Int) ≤ q.At ∧ q.At < ((n + l.length : Nat) : Int) ∧ q.B = p.B
  | _, [], _, h => by cases h
  | n, p :: r, q, h => by
    rw [copies] at h
    rcases List.mem_cons.1 h with rfl | h
    · exact ⟨p, List.mem_cons_self .., by show (n : Int) ≤ n; omega, by show (n : Int) < _; rw [List.length_cons]; omega, rfl⟩
    · obtain ⟨p', h1, h2, h3, h4⟩ := copies_at (n + 1) r q h
      exact ⟨p', List.mem_cons_of_mem _ h1, by omega, by rw [List.length_cons]; omega, h4⟩

theorem copy_loop (home : Nat) (l t : List TPut) (o : TDisk) (ok : Bool) (r4 : List (List UInt8)) (r5 : List TPut) (hh : home ≤ 1000) (hl : t.length ≤ 16) : ∀ (r : List TPut) (i : Nat) (d : TDisk) (x : TDisk) (n : Nat), t.drop i = r → i ≤ t.length → r.length < n → DOk d → d.Down = false → d.Wait.length + r.length < 1000 → (∀ p ∈ copies (home + 1 + i) r, okP d.Last.length p) →
    ∃ z, iter (jrnl_Commit_s0 (home : Int) l t (t.length : Int) o ok r4 r5) n ((i : Int), x, ⟨d⟩) = some z ∧ (((wmany d (copies (home + 1 + i) r)).2 = true ∧ ∃ y, z = .inr (y, ⟨(wmany d (copies (home + 1 + i) r)).1⟩)) ∨ ((wmany d (copies (home + 1 + i) r)).2 = false ∧ ∃ y u, z = .inl (y, ⟨(wmany d (copies (home + 1 + i) r)).1⟩, u)))
  | _, _, _, _, 0, _, _, h, _, _, _, _ => absurd h (Nat.not_lt_zero _)
  | [], i, d, x, n + 1, hdr, hi, _, hd, hdn, _, _ => by
    obtain rfl : i = t.length := Nat.le_antisymm hi (List.drop_eq_nil_iff.1 hdr)
    rw [iter_succ]
    simp only [jrnl_Commit_s0, jrnl_Commit_s0k, ge_dec, cond_false]
    exact ⟨_, rfl, .inl ⟨rfl, _, rfl⟩⟩
  | p :: r, i, d, x, n + 1, hdr, hi, hn, hd, hdn, hw, hp => by
    have hlt : i < t.length := by
      rcases Nat.lt_or_ge i t.length with h | h
      · exact h
      · rw [List.drop_eq_nil_iff.2 h] at hdr; cases hdr
    have hd2 : t.drop i = t[i] :: t.drop (i + 1) := List.drop_eq_getElem_cons hlt
    rw [hdr] at hd2
    obtain ⟨e1, e2⟩ := List.cons.inj hd2
    rw [iter_succ]
    simp only [jrnl_Commit_s0, jrnl_Commit_s0k]
    rw [List.length_cons] at hw hn
    have hpk := hp _ (by rw [copies]; exact List.mem_cons_self ..)
    rw [lt_dec hlt, inR_nat hlt, Int.toNat_natCast, List.getElem?_eq_getElem hlt, ← e1]
    simp only [cond_true, some_bind]
    rw [wi64_of (show -9223372036854775808 ≤ (home : Int) + 1 by omega) (by omega), wi64_of (show -9223372036854775808 ≤ (home : Int) + 1 + (i : Int) by omega) (by omega), show (home : Int) + 1 + (i : Int) = ((home + 1 + i : Nat) : Int) by omega, write2_ok d hd (by omega) hdn _ _ hpk, some_bind, copies, wmany]
    unfold wout
    cases hD : (wput d ⟨((home + 1 + i : Nat) : Int), p.B⟩).Down with
    | true => exact ⟨_, rfl, .inr ⟨rfl, _, _, rfl⟩⟩
    | false =>
      simp only [cond_false, alt_inl]
      rw [wi64_succ (by omega)]
      exact copy_loop home l t o ok r4 r5 hh hl r (i + 1) (wput d ⟨((home + 1 + i : Nat) : Int), p.B⟩) _ n e2.symm hlt (by omega) (wput_ok hd (by omega) hpk) hD (by rw [wput_wait]; simp; omega) (fun q hq => by rw [wput_last]; exact hp q (by rw [copies]; exact List.mem_cons_of_mem _ hq))

theorem put_loop2 (t : List TPut) (o : TDisk) (ok : Bool) (r4 : List (List UInt8)) (r5 : List TPut) (hl : t.length ≤ 16) : ∀ (r : List TPut) (i : Nat) (d : TDisk) (x : TDisk) (n : Nat), t.drop i = r → i ≤ t.length → r.length < n → DOk d → d.Down = false → d.Wait.length + r.length < 1000 → (∀ p ∈ r, okP d.Last.length p) →
    ∃ z, iter (jrnl_Commit_s1 t (t.length : Int) o ok r4 r5) n ((i : Int), x, ⟨d⟩) = some z ∧ (((wmany d r).2 = true ∧ ∃ y, z = .inr (y, ⟨(wmany d r).1⟩)) ∨ ((wmany d r).2 = false ∧ ∃ y u, z = .inl (y, ⟨(wmany d r).1⟩, u)))
  | _, _, _, _, 0, _, _, h, _, _, _, _ => absurd h (Nat.not_lt_zero _)
  | [], i, d, x, n + 1, hdr, hi, _, hd, hdn, _, _ => by
    obtain rfl : i = t.length := Nat.le_antisymm hi (List.drop_eq_nil_iff.1 hdr)
    rw [iter_succ]
    simp only [jrnl_Commit_s1, jrnl_Commit_s1k, ge_dec, cond_false]
    exact ⟨_, rfl, .inl ⟨rfl, _, rfl⟩⟩
  | p :: r, i, d, x, n + 1, hdr, hi, hn, hd, hdn, hw, hp => by
    have hlt : i < t.length := by
      rcases Nat.lt_or_ge i t.length with h | h
      · exact h
      · rw [List.drop_eq_nil_iff.2 h] at hdr; cases hdr
    have hd2 : t.drop i = t[i] :: t.drop (i + 1) := List.drop_eq_getElem_cons hlt
    rw [hdr] at hd2
    obtain ⟨e1, e2⟩ := List.cons.inj hd2
    rw [iter_succ]
    simp only [jrnl_Commit_s1, jrnl_Commit_s1k]
    rw [List.length_cons] at hw hn
    have hpk := hp p (List.mem_cons_self ..)
    rw [lt_dec hlt, inR_nat hlt, Int.toNat_natCast, List.getElem?_eq_getElem hlt, ← e1]
    simp only [cond_true, some_bind]
    rw [write2_ok d hd (by omega) hdn _ _ hpk, some_bind, wmany]
    unfold wout
    cases hD : (wput d p).Down with
    | true => exact ⟨_, rfl, .inr ⟨rfl, _, _, rfl⟩⟩
    | false =>
      simp only [cond_false, alt_inl]
      rw [wi64_succ (by omega)]
      exact put_loop2 t o ok r4 r5 hl r (i + 1) (wput d p) _ n e2.symm hlt (by omega) (wput_ok hd (by omega) hpk) hD (by rw [wput_wait]; simp; omega) (fun q hq => by rw [wput_last]; exact hp q (List.mem_cons_of_mem _ hq))

/-- A commit's rounds. -/
def rounds (d : TDisk) (home : Nat) (l : List TPut) : TDisk × Bool :=
  bif (wput d ⟨(home : Int), zeros⟩).Down then (wput d ⟨(home : Int), zeros⟩, false)
  else bif (wmany (flushed (wput d ⟨(home : Int), zeros⟩)) (copies (home + 1) l)).2 then
    (bif (wput (flushed (wmany (flushed (wput d ⟨(home : Int), zeros⟩)) (copies (home + 1) l)).1) ⟨(home : Int), headB l⟩).Down then (wput (flushed (wmany (flushed (wput d ⟨(home : Int), zeros⟩)) (copies (home + 1) l)).1) ⟨(home : Int), headB l⟩, false)
    else bif (wmany (flushed (wput (flushed (wmany (flushed (wput d ⟨(home : Int), zeros⟩)) (copies (home + 1) l)).1) ⟨(home : Int), headB l⟩)) l).2 then (flushed (wmany (flushed (wput (flushed (wmany (flushed (wput d ⟨(home : Int), zeros⟩)) (copies (home + 1) l)).1) ⟨(home : Int), headB l⟩)) l).1, true)
      else ((wmany (flushed (wput (flushed (wmany (flushed (wput d ⟨(home : Int), zeros⟩)) (copies (home + 1) l)).1) ⟨(home : Int), headB l⟩)) l).1, false))
  else ((wmany (flushed (wput d ⟨(home : Int), zeros⟩)) (copies (home + 1) l)).1, false)

theorem wmany_last : ∀ (ws : List TPut) (d : TDisk), (wmany d ws).1.Last = d.Last
  | [], d => rfl
  | p :: r, d => by
    rw [wmany]
    cases (wput d p).Down with
    | true => exact wput_last d p
    | false => rw [cond_false, wmany_last r, wput_last]
theorem flushed_len (d : TDisk) : (flushed d).Last.length = d.Last.length := wr_len d.Wait d.Last

theorem Commit_ok (d : TDisk) (hd : DOk d) (hdn : d.Down = false) (hW : d.Wait.length < 1000) (home : Nat) (l : List TPut) (hl : l ≠ []) (hv : Valid home l) (hn : home + l.length < d.Last.length) (hh : home ≤ 256) : jrnl_Commit fuel d (home : Int) l = some (rounds d home l) := by
  unfold jrnl_Commit jrnl_Commit_k rounds
  have h16 := hv.len
  have hlp : 0 < l.length := List.length_pos_iff.2 hl
  have hN := hd.len
  rw [show ((l.length : Int) == 0) = false from beq_ne (by omega), may_ok d home l hv hn hN]
  simp only [cond_false, some_bind, Bool.not_true]
  have hz : okP d.Last.length ⟨(home : Int), zeros⟩ := ⟨by show (0 : Int) ≤ home; omega, by show (home : Int) < _; omega, rfl⟩
  have w1 := write1_ok d hd hW hdn (home : Int) zeros hz
  have w1' : jrnl_writer_write (home : Int) [0, 0, 0, 0, 0, 0, 0, 0, 0, 0, 0, 0, 0, 0, 0, 0, 0, 0, 0, 0, 0, 0, 0, 0, 0, 0, 0, 0, 0, 0, 0, 0] ⟨d⟩ = _ := w1
  rw [w1', some_bind]
  have d1 := wput_ok hd hW hz
  have L1 := wput_last d ⟨(home : Int), zeros⟩
  generalize wput d ⟨(home : Int), zeros⟩ = a at d1 L1
  cases hD : a.Down with
  | true => rfl
  | false =>
    simp only [cond_false, alt_inl]
    rw [wflush_ok a d1 hD, some_bind]
    simp only [alt_inl]
    have d2 := flush_ok d1
    have hD2 : (flushed a).Down = false := hD
    have N2 : (flushed a).Last.length = d.Last.length := by rw [flushed_len, L1]
    have W2 : (flushed a).Wait = [] := rfl
    generalize flushed a = b at d2 hD2 N2 W2
    have hcp : ∀ p ∈ copies (home + 1) l, okP b.Last.length p := by
      intro p hp
      obtain ⟨q, hq, h1, h2, h3⟩ := copies_at _ _ _ hp
      exact ⟨by omega, by rw [N2]; omega, by rw [h3]; exact (hv.each q hq).2.2⟩
    obtain ⟨z, e, hz⟩ := copy_loop home l l d false d.Last d.Wait (by omega) h16 l 0 b (TDisk.mk [] [] 0 false) fuel rfl (by omega) (fuel_gt (by omega)) d2 hD2 (by rw [W2]; simp; omega) hcp
    have e' : jrnl_Commit_l0 fuel (home : Int) l l (l.length : Int) d false d.Last d.Wait 0 (TDisk.mk [] [] 0 false) ⟨b⟩ = some z := e
    rw [e', some_bind]
    have d3 := wmany_ok (copies (home + 1) l) b d2 (by rw [W2, copies_len]; simp; omega) hcp
    have L3 := wmany_last (copies (home + 1) l) b
    rw [Nat.add_zero] at hz
    rcases wmany_down (copies (home + 1) l) b hD2 with ⟨g1, g2⟩ | ⟨g1, g2⟩
    rotate_left
    · rcases hz with ⟨h, _⟩ | ⟨_, y, u, rfl⟩
      · rw [g1] at h; cases h
      · rw [g1]; rfl
    · rcases hz with ⟨_, y, rfl⟩ | ⟨h, _⟩
      rotate_left
      · rw [g1] at h; cases h
      rw [g1]
      simp only [alt_inr, cond_true]
      generalize (wmany b (copies (home + 1) l)).1 = c at d3 L3 g2
      rw [wflush_ok c d3 g2, some_bind]
      simp only [alt_inl]
      have d4 := flush_ok d3
      have hD4 : (flushed c).Down = false := g2
      have N4 : (flushed c).Last.length = d.Last.length := by rw [flushed_len, L3, N2]
      have W4 : (flushed c).Wait = [] := rfl
      generalize flushed c = q at d4 hD4 N4 W4
      have hq : okP q.Last.length ⟨(home : Int), headB l⟩ := ⟨by show (0 : Int) ≤ home; omega, by show (home : Int) < _; omega, headB_len l h16⟩
      rw [head_ok l h16 (fun p hp => by obtain ⟨h1, h2, _⟩ := hv.each p hp; exact ⟨h1, by omega⟩), some_bind, write2_ok q d4 (by rw [W4]; simp) hD4 _ _ hq, some_bind]
      have d5 := wput_ok d4 (by rw [W4]; simp) hq
      have L5 := wput_last q ⟨(home : Int), headB l⟩
      generalize wput q ⟨(home : Int), headB l⟩ = u at d5 L5
      unfold wout
      cases hDu : u.Down with
      | true => rfl
      | false =>
        simp only [cond_false, alt_inl]
        rw [wflush_ok u d5 hDu, some_bind]
        simp only [alt_inl]
        have d6 := flush_ok d5
        have hD6 : (flushed u).Down = false := hDu
        have N6 : (flushed u).Last.length = d.Last.length := by rw [flushed_len, L5, N4]
        have W6 : (flushed u).Wait = [] := rfl
        generalize flushed u = v at d6 hD6 N6 W6
        have hlv : ∀ p ∈ l, okP v.Last.length p := by
          intro p hp
          obtain ⟨h1, h2, h3⟩ := hv.each p hp
          exact ⟨h1, by rw [N6]; omega, h3⟩
        obtain ⟨z2, e2, hz2⟩ := put_loop2 l d false d.Last d.Wait h16 l 0 v (TDisk.mk [] [] y.Arm y.Down) fuel rfl (by omega) (fuel_gt (by omega)) d6 hD6 (by rw [W6]; simp; omega) hlv
        have e2' : jrnl_Commit_l1 fuel l (l.length : Int) d false d.Last d.Wait 0 (TDisk.mk [] [] y.Arm y.Down) ⟨v⟩ = some z2 := e2
        rw [e2', some_bind]
        have d7 := wmany_ok l v d6 (by rw [W6]; simp; omega) hlv
        rcases wmany_down l v hD6 with ⟨k1, k2⟩ | ⟨k1, k2⟩
        · rcases hz2 with ⟨_, y2, rfl⟩ | ⟨h, _⟩
          · rw [k1]
            simp only [alt_inr, cond_true]
            rw [wflush_ok _ d7 k2]
            rfl
          · rw [k1] at h; cases h
        · rcases hz2 with ⟨h, _⟩ | ⟨_, y2, u2, rfl⟩
          · rw [k1] at h; cases h
          · rw [k1]; rfl
end Go.Proofs.YtddhfdbfackahaaDoor.N

set_option linter.unusedVariables false
set_option linter.unusedSimpArgs false
namespace Go.Proofs.YtddhfdbfackahaaDoor.N
open Go

theorem i8_ne {x : UInt8} (h : x ≠ 1) : (i8 x != 1) = true := by
  have : i8 x ≠ 1 := fun e => h (i8_inj (y := 1) e)
  simp [this]

theorem named_no (d : TDisk) (home : Int) (s : List UInt8) (hs : s.length = 32) (h : s[0]? ≠ some 1 ∨ s[31]? ≠ some 1) : jrnl_named fuel d home s = some ([], false) := by
  unfold jrnl_named jrnl_named_k
  have h0 : 0 < s.length := by omega
  have h31 : 31 < s.length := by omega
  rw [List.getElem?_eq_getElem h0, List.getElem?_eq_getElem h31] at h
  rw [inR_of (by omega) (by omega), List.getElem?_eq_getElem h0]
  simp only [cond_true, some_bind]
  by_cases a : s[0] = 1
  · rw [a, show (i8 1 != 1) = false from rfl, inR_of (by omega) (by omega), List.getElem?_eq_getElem h31]
    simp only [cond_false, cond_true, some_bind]
    have : s[31] ≠ 1 := by
      rcases h with h | h
      · exact absurd (by rw [a]) h
      · exact fun e => h (by rw [e])
    rw [i8_ne this]
    rfl
  · rw [i8_ne a]
    rfl

theorem trimR (k : Nat) (hk : k ≤ 1000) : strings_trimRightByte fuel (List.replicate k 0) 0 = some [] := by
  unfold strings_trimRightByte strings_trimRightByte_k strings_trimRightByte_l0
  obtain ⟨x, e, hx⟩ := iter_inv (step := strings_trimRightByte_s0 0) (fun j v => v = List.replicate j 0 ∧ j ≤ 1000) (fun r => r = []) (fun j v hI => by
    obtain ⟨rfl, hj⟩ := hI
    simp only [strings_trimRightByte_s0, strings_trimRightByte_s0k]
    rw [List.length_replicate]
    cases j with
    | zero => exact ⟨_, rfl, rfl⟩
    | succ j =>
      rw [decide_eq_true (show ((j + 1 : Nat) : Int) > 0 by omega), wi64_of (by omega) (by omega), show ((j + 1 : Nat) : Int) - 1 = (j : Int) by omega, inR_nat (by omega), Int.toNat_natCast, List.getElem?_replicate, if_pos (by omega), cutOk_of (by omega) (by omega) (by omega), cut_front]
      refine ⟨_, rfl, j, by omega, ?_, by omega⟩
      rw [List.take_replicate, Nat.min_eq_left (by omega)]) k (List.replicate k 0) fuel ⟨rfl, hk⟩ (fuel_gt (by omega))
  rw [e, hx]
  rfl
theorem trimL : strings_trimLeftByte fuel [] 0 = some [] := by
  unfold strings_trimLeftByte strings_trimLeftByte_k strings_trimLeftByte_l0
  rw [fuel_eq, iter_succ]
  rfl
theorem Trim_ok (k : Nat) (hk : k ≤ 1000) : strings_Trim fuel (List.replicate k 0) = some [] := by
  unfold strings_Trim strings_Trim_k
  cases k with
  | zero => rfl
  | succ k =>
    rw [beq_ne (show List.replicate (k + 1) (0 : UInt8) ≠ [] by simp), trimR _ hk]
    simp only [cond_false, some_bind]
    rw [trimL]
    rfl

theorem headB_0 (l : List TPut) : (headB l)[0]? = some 1 := rfl
theorem headB_1 (l : List TPut) : (headB l)[1]? = some (b8 (l.length : Int)) := rfl
theorem headB_31 (l : List TPut) (h : l.length ≤ 16) : (headB l)[31]? = some 1 := by
  have e : headB l = (1 :: b8 (l.length : Int) :: (l.map (fun p => b8 p.At) ++ List.replicate (29 - l.length) 0)) ++ [1] := by
    unfold headB; simp
  have hl : (1 :: b8 (l.length : Int) :: (l.map (fun p => b8 p.At) ++ List.replicate (29 - l.length) (0 : UInt8))).length = 31 := by
    simp only [List.length_cons, List.length_append, List.length_map, List.length_replicate]; omega
  rw [e, List.getElem?_append_right (by omega), hl]
  rfl
theorem headB_ats (l : List TPut) : ((headB l).drop 2).take l.length = l.map (fun p => b8 p.At) := by
  show (l.map (fun p : TPut => b8 p.At) ++ (List.replicate (29 - l.length) 0 ++ [1])).take l.length = _
  rw [List.take_append_of_le_length (by rw [List.length_map]; exact Nat.le_refl _), List.take_of_length_le (by rw [List.length_map]; exact Nat.le_refl _)]
theorem headB_rest (l : List TPut) (h : l.length ≤ 16) : ((headB l).drop (2 + l.length)).take (29 - l.length) = List.replicate (29 - l.length) 0 := by
  have : (headB l).drop (2 + l.length) = List.replicate (29 - l.length) 0 ++ [1] := by
    rw [← List.drop_drop]
    show (l.map (fun p : TPut => b8 p.At) ++ (List.replicate (29 - l.length) 0 ++ [1])).drop l.length = _
    rw [List.drop_append_of_le_length (by rw [List.length_map]; exact Nat.le_refl _), List.drop_of_length_le (by rw [List.length_map]; exact Nat.le_refl _)]
    rfl
  rw [this, List.take_append_of_le_length (by rw [List.length_replicate]; exact Nat.le_refl _), List.take_of_length_le (by rw [List.length_replicate]; exact Nat.le_refl _)]

theorem named_head (d : TDisk) (home : Nat) (l : List TPut) (hl : l ≠ []) (hv : Valid home l) (hn : home + l.length < d.Last.length) (hN : d.Last.length ≤ 1000) (hh : home ≤ 256) : jrnl_named fuel d (home : Int) (headB l) = some (l.map TPut.At, true) := by
  have h16 := hv.len
  have hlp : 0 < l.length := List.length_pos_iff.2 hl
  have hlen := headB_len l h16
  have hn0 : i8 (b8 (l.length : Int)) = (l.length : Int) := i8_b8 (by omega) (by omega)
  unfold jrnl_named jrnl_named_k
  rw [inR_of (by omega) (by omega), headB_0]
  simp only [cond_true, some_bind]
  rw [show (i8 1 != 1) = false from rfl, inR_of (by omega) (by omega), headB_31 l h16]
  simp only [cond_false, cond_true, some_bind]
  rw [show (i8 1 != 1) = false from rfl, inR_of (by omega) (by omega), headB_1]
  simp only [cond_false, cond_true, some_bind]
  rw [hn0, wi64_of (show -9223372036854775808 ≤ (l.length : Int) by omega) (by omega), decide_eq_false (show ¬ (l.length : Int) < 1 by omega), decide_eq_false (show ¬ (l.length : Int) > 16 by omega), wi64_of (show -9223372036854775808 ≤ (home : Int) + (l.length : Int) by omega) (by omega),
    decide_eq_false (show ¬ (home : Int) + (l.length : Int) ≥ (d.Last.length : Int) by omega), wi64_of (show -9223372036854775808 ≤ 2 + (l.length : Int) by omega) (by omega), show 2 + (l.length : Int) = ((2 + l.length : Nat) : Int) by omega, cutOk_of (by omega) (by omega) (by omega)]
  have hc := cut_mid (headB l) 2 l.length
  rw [show ((2 : Nat) : Int) = 2 from rfl, headB_ats] at hc
  rw [hc]
  simp only [cond_false, cond_true]
  unfold jrnl_named_l0
  rw [List.length_map]
  obtain ⟨x, e, hx⟩ := iter_inv (step := jrnl_named_s0 (home : Int) (headB l) (l.length : Int) (l.length : Int) d (l.map fun p => b8 p.At)) (fun k v => ∃ i : Nat, v.2.1 = (i : Int) ∧ i + k = l.length ∧ v.2.2 = (l.take i).map TPut.At ∧ ∀ p ∈ l.drop i, v.1 < p.At) (fun r => r = .inr (l.map TPut.At)) (fun k v hI => by
    obtain ⟨v1, v2, v3⟩ := v
    obtain ⟨i, h1, hk, h2, h3⟩ := hI
    simp only at h1 h2 h3
    subst h1 h2
    simp only [jrnl_named_s0, jrnl_named_s0k]
    by_cases hlt : i < l.length
    · have hdr : l.drop i = l[i] :: l.drop (i + 1) := List.drop_eq_getElem_cons hlt
      have hs := hv.sorted.sublist (List.drop_sublist i l)
      rw [hdr] at h3 hs
      obtain ⟨g0, g1, g2⟩ := hv.each _ (List.getElem_mem hlt)
      have g3 := h3 _ (List.mem_cons_self ..)
      have hlm : i < (l.map fun p => b8 p.At).length := by rw [List.length_map]; exact hlt
      rw [lt_dec hlt, inR_nat hlm, Int.toNat_natCast, List.getElem?_map, List.getElem?_eq_getElem hlt]
      simp only [cond_true, Option.map_some, some_bind]
      rw [i8_b8 g0 (by omega), wi64_of (show -9223372036854775808 ≤ l[i].At by omega) (by omega), decide_eq_false (show ¬ l[i].At ≤ v1 by omega), decide_eq_false (show ¬ l[i].At ≥ (home : Int) by omega), decide_eq_true (show ((l.take i).map TPut.At).length + 1 ≤ lim by rw [lim_eq]; simp; omega), wi64_succ (by omega)]
      refine ⟨_, rfl, k - 1, by omega, i + 1, rfl, by omega, ?_, fun p hp => List.rel_of_pairwise_cons hs hp⟩
      rw [List.take_add_one, List.getElem?_eq_getElem hlt, List.map_append]
      rfl
    · obtain rfl : i = l.length := by omega
      rw [ge_dec]
      exact ⟨_, rfl, by rw [List.take_length]; rfl⟩) l.length (-1, 0, []) fuel ⟨0, rfl, by omega, rfl, fun p hp => by have := (hv.each p hp).1; show (-1 : Int) < p.At; omega⟩ (fuel_gt (by omega))
  rw [e, hx, some_bind]
  simp only [alt_inr]
  have hc2 := cut_mid (headB l) (2 + l.length) (29 - l.length)
  rw [headB_rest l h16, show ((2 + l.length + (29 - l.length) : Nat) : Int) = 31 by omega] at hc2
  rw [cutOk_of (by omega) (by omega) (by omega), hc2, Trim_ok _ (by omega)]
  rfl

/-! Reading -/
theorem Read_plain (d : TDisk) (hdn : d.Down = false) (i : Nat) (h : i < d.Last.length) (hw : ∀ q ∈ d.Wait, q.At ≠ (i : Int)) : disk_Read d (i : Int) = (d.Last.getD i [], true) := by
  unfold disk_Read
  rw [hdn, decide_eq_true (show (0 : Int) ≤ (i : Int) by omega), decide_eq_true (show (i : Int) < (d.Last.length : Int) by omega), findW_none hw]
  rfl
theorem read2_ok (d : TDisk) (hdn : d.Down = false) (i : Nat) (h : i < d.Last.length) (hw : ∀ q ∈ d.Wait, q.At ≠ (i : Int)) : jrnl_writer_read_2 (i : Int) ⟨d⟩ = some (.inl (d.Last.getD i [], ⟨d⟩)) := by
  unfold jrnl_writer_read_2 jrnl_writer_read_2_k
  simp only [Read_plain d hdn i h hw]
  rfl
theorem read1_ok (d : TDisk) (hdn : d.Down = false) (i : Nat) (h : i < d.Last.length) (hw : ∀ q ∈ d.Wait, q.At ≠ (i : Int)) : jrnl_writer_read (i : Int) ⟨d⟩ = some (.inl (d.Last.getD i [], ⟨d⟩, d.Last, d.Wait)) := by
  unfold jrnl_writer_read jrnl_writer_read_k
  simp only [Read_plain d hdn i h hw]
  rfl

def mends (L : List (List UInt8)) : Nat → List TPut → List TPut
  | _, [] => []
  | n, p :: r => ⟨p.At, L.getD n []⟩ :: mends L (n + 1) r
theorem mends_len (L : List (List UInt8)) : ∀ (n : Nat) (l : List TPut), (mends L n l).length = l.length
  | _, [] => rfl
  | n, p :: r => by rw [mends, List.length_cons, List.length_cons, mends_len]

theorem getD_len {L : List (List UInt8)} (h : ∀ x ∈ L, x.length = 32) {i : Nat} (hi : i < L.length) : (L.getD i []).length = 32 := by
  rw [List.getD_eq_getElem?_getD, List.getElem?_eq_getElem hi]
  exact h _ (List.getElem_mem hi)

theorem mend_loop (home : Nat) (l : List TPut) (o : TDisk) (ok : Bool) (r4 : List (List UInt8)) (r5 : List TPut) (hh : home ≤ 256) (hl : l.length ≤ 16) (L : List (List UInt8)) : ∀ (r : List TPut) (i : Nat) (d : TDisk) (x : TDisk) (n : Nat), l.drop i = r → i ≤ l.length → r.length < n → DOk d → d.Down = false → d.Last = L → d.Wait.length + r.length < 1000 → (∀ p ∈ r, okP home p) → home + l.length < L.length → (∀ p ∈ d.Wait, p.At < (home : Int)) →
    ∃ z, iter (jrnl_Mend_s0 (home : Int) (l.map TPut.At) ((l.map TPut.At).length : Int) o ok r4 r5) n ((i : Int), x, ⟨d⟩) = some z ∧ (((wmany d (mends L (home + 1 + i) r)).2 = true ∧ ∃ y, z = .inr (y, ⟨(wmany d (mends L (home + 1 + i) r)).1⟩)) ∨ ((wmany d (mends L (home + 1 + i) r)).2 = false ∧ ∃ y, z = .inl (y, ⟨(wmany d (mends L (home + 1 + i) r)).1⟩)))
  | _, _, _, _, 0, _, _, h, _, _, _, _, _, _, _ => absurd h (Nat.not_lt_zero _)
  | [], i, d, x, n + 1, hdr, hi, _, hd, hdn, _, _, _, _, _ => by
    obtain rfl : i = l.length := Nat.le_antisymm hi (List.drop_eq_nil_iff.1 hdr)
    rw [iter_succ]
    simp only [jrnl_Mend_s0, jrnl_Mend_s0k, List.length_map, ge_dec, cond_false]
    exact ⟨_, rfl, .inl ⟨rfl, _, rfl⟩⟩
  | p :: r, i, d, x, n + 1, hdr, hi, hn, hd, hdn, hL, hw, hp, hN, hat => by
    have hlt : i < l.length := by
      rcases Nat.lt_or_ge i l.length with h | h
      · exact h
      · rw [List.drop_eq_nil_iff.2 h] at hdr; cases hdr
    have hd2 : l.drop i = l[i] :: l.drop (i + 1) := List.drop_eq_getElem_cons hlt
    rw [hdr] at hd2
    obtain ⟨e1, e2⟩ := List.cons.inj hd2
    rw [List.length_cons] at hw hn
    obtain ⟨p0, p1, p2⟩ := hp p (List.mem_cons_self ..)
    have hin : home + 1 + i < d.Last.length := by rw [hL]; omega
    have hlm : i < (l.map TPut.At).length := by rw [List.length_map]; exact hlt
    have hpk : okP d.Last.length ⟨p.At, d.Last.getD (home + 1 + i) []⟩ := ⟨p0, by rw [hL]; show p.At < _; omega, getD_len hd.last hin⟩
    rw [iter_succ]
    simp only [jrnl_Mend_s0, jrnl_Mend_s0k]
    rw [lt_dec hlm, inR_nat hlm, Int.toNat_natCast, List.getElem?_map, List.getElem?_eq_getElem hlt, ← e1]
    simp only [cond_true, Option.map_some, some_bind]
    rw [wi64_of (show -9223372036854775808 ≤ (home : Int) + 1 by omega) (by omega), wi64_of (show -9223372036854775808 ≤ (home : Int) + 1 + (i : Int) by omega) (by omega), show (home : Int) + 1 + (i : Int) = ((home + 1 + i : Nat) : Int) by omega, read2_ok d hdn (home + 1 + i) hin (fun q hq => by have := hat q hq; omega), some_bind]
    simp only [alt_inl]
    rw [write2_ok d hd (by omega) hdn _ _ hpk, some_bind, mends, wmany, hL]
    rw [hL] at hpk
    unfold wout
    cases hD : (wput d ⟨p.At, L.getD (home + 1 + i) []⟩).Down with
    | true => exact ⟨_, rfl, .inr ⟨rfl, _, rfl⟩⟩
    | false =>
      simp only [cond_false, alt_inl]
      rw [wi64_succ (by omega)]
      exact mend_loop home l o ok r4 r5 hh hl L r (i + 1) (wput d ⟨p.At, L.getD (home + 1 + i) []⟩) _ n e2.symm hlt (by omega) (wput_ok hd (by omega) (by rw [hL]; exact hpk)) hD (by rw [wput_last]; exact hL) (by rw [wput_wait]; simp; omega) (fun q hq => hp q (List.mem_cons_of_mem _ hq)) hN (fun q hq => by
        rw [wput_wait] at hq
        rcases List.mem_append.1 hq with hq | hq
        · exact hat q hq
        · rw [List.mem_singleton.1 hq]; exact p1)

theorem mends_ok (L : List (List UInt8)) (home : Nat) (hL : ∀ x ∈ L, x.length = 32) : ∀ (n : Nat) (l : List TPut), (∀ p ∈ l, okP home p) → home ≤ L.length → n + l.length ≤ L.length → ∀ q ∈ mends L n l, okP L.length q
  | _, [], _, _, _, q, hq => by cases hq
  | n, p :: r, hp, hh, hn, q, hq => by
    rw [List.length_cons] at hn
    rw [mends] at hq
    rcases List.mem_cons.1 hq with rfl | hq
    · obtain ⟨a, b, c⟩ := hp p (List.mem_cons_self ..)
      exact ⟨a, by show p.At < _; omega, getD_len hL (by omega)⟩
    · exact mends_ok L home hL (n + 1) r (fun x hx => hp x (List.mem_cons_of_mem _ hx)) hh (by omega) q hq

theorem Mend_no (d : TDisk) (hd : DOk d) (hdn : d.Down = false) (hW : d.Wait = []) (home : Nat) (hh : home < d.Last.length) (h : (d.Last.getD home [])[0]? ≠ some 1 ∨ (d.Last.getD home [])[31]? ≠ some 1) : jrnl_Mend fuel d (home : Int) = some (d, false) := by
  unfold jrnl_Mend jrnl_Mend_k
  have hs := getD_len hd.last hh
  rw [read1_ok d hdn home hh (fun q hq => by rw [hW] at hq; cases hq), some_bind]
  simp only [alt_inl]
  rw [eq_int (show ((d.Last.getD home []).length : Int) = 32 by omega), named_no d _ _ hs h]
  rfl

theorem Mend_yes (d : TDisk) (hd : DOk d) (hdn : d.Down = false) (hW : d.Wait = []) (home : Nat) (hh : home ≤ 256) (l : List TPut) (hl : l ≠ []) (hv : Valid home l) (hn : home + l.length < d.Last.length) (h : d.Last.getD home [] = headB l) :
    jrnl_Mend fuel d (home : Int) = some (bif (wmany d (mends d.Last (home + 1) l)).2 then (flushed (wmany d (mends d.Last (home + 1) l)).1, true) else ((wmany d (mends d.Last (home + 1) l)).1, false)) := by
  unfold jrnl_Mend jrnl_Mend_k
  have h16 := hv.len
  rw [read1_ok d hdn home (by omega) (fun q hq => by rw [hW] at hq; cases hq), some_bind]
  simp only [alt_inl]
  rw [h, eq_int (show ((headB l).length : Int) = 32 by rw [headB_len l h16]; rfl), named_head d home l hl hv hn hd.len hh]
  simp only [cond_false, some_bind, Bool.not_true]
  obtain ⟨z, e, hz⟩ := mend_loop home l d false d.Last d.Wait hh h16 d.Last l 0 d (TDisk.mk [] [] 0 false) fuel rfl (by omega) (fuel_gt (by omega)) hd hdn rfl (by rw [hW]; simp; omega) hv.each hn (fun q hq => by rw [hW] at hq; cases hq)
  have e' : jrnl_Mend_l0 fuel (home : Int) (l.map TPut.At) ((l.map TPut.At).length : Int) d false d.Last d.Wait 0 (TDisk.mk [] [] 0 false) ⟨d⟩ = some z := e
  rw [e', some_bind]
  rw [Nat.add_zero] at hz
  have d2 := wmany_ok (mends d.Last (home + 1) l) d hd (by rw [hW, mends_len]; simp; omega) (mends_ok d.Last home hd.last (home + 1) l hv.each (by omega) (by omega))
  rcases wmany_down (mends d.Last (home + 1) l) d hdn with ⟨g1, g2⟩ | ⟨g1, g2⟩
  · rcases hz with ⟨_, y, rfl⟩ | ⟨h, _⟩
    · rw [g1]
      simp only [alt_inr, cond_true]
      rw [wflush_ok _ d2 g2]
      rfl
    · rw [g1] at h; cases h
  · rcases hz with ⟨h, _⟩ | ⟨_, y, rfl⟩
    · rw [g1] at h; cases h
    · rw [g1]; rfl
end Go.Proofs.YtddhfdbfackahaaDoor.N

set_option linter.unusedVariables false
set_option linter.unusedSimpArgs false
namespace Go.Proofs.YtddhfdbfackahaaDoor.N
open Go

/-- A write of which so much lasts. -/
def tear (L : List (List UInt8)) (p : TPut) (n : Nat) : List (List UInt8) := L.set p.At.toNat (p.B.take n ++ (L.getD p.At.toNat []).drop n)
def clampK : Option Int → Nat
  | some k => (min (max k 0) 32).toNat
  | none => 0
def crashL (L : List (List UInt8)) : List TPut → List Int → List (List UInt8)
  | [], _ => L
  | p :: r, ks => crashL (tear L p (clampK ks.head?)) r ks.tail
theorem clampK_le (o : Option Int) : clampK o ≤ 32 := by
  cases o with
  | none => exact Nat.zero_le _
  | some k => show (min (max k 0) 32).toNat ≤ 32; omega
theorem tear_len (L : List (List UInt8)) (p : TPut) (n : Nat) : (tear L p n).length = L.length := List.length_set
theorem tear_each {L : List (List UInt8)} (h : ∀ x ∈ L, x.length = 32) {p : TPut} (hp : okP L.length p) {n : Nat} (hn : n ≤ 32) : ∀ x ∈ tear L p n, x.length = 32 := by
  intro x hx
  obtain ⟨a, b, c⟩ := hp
  rcases List.mem_or_eq_of_mem_set hx with hx | rfl
  · exact h x hx
  · have := getD_len h (show p.At.toNat < L.length by omega)
    rw [List.length_append, List.length_take, List.length_drop, this, c]
    omega
theorem crash_len : ∀ (ws : List TPut) (L : List (List UInt8)) (ks : List Int), (crashL L ws ks).length = L.length
  | [], L, ks => rfl
  | p :: r, L, ks => by rw [crashL, crash_len r, tear_len]
theorem crash_each : ∀ (ws : List TPut) (L : List (List UInt8)) (ks : List Int), (∀ x ∈ L, x.length = 32) → (∀ p ∈ ws, okP L.length p) → ∀ x ∈ crashL L ws ks, x.length = 32
  | [], L, ks, h, _ => h
  | p :: r, L, ks, h, hp => crash_each r _ _ (tear_each h (hp p (List.mem_cons_self ..)) (clampK_le _)) (fun q hq => by rw [tear_len]; exact hp q (List.mem_cons_of_mem _ hq))

theorem lasts_ok (L : List (List UInt8)) (hL : ∀ x ∈ L, x.length = 32) (hN : L.length ≤ 1000) (p : TPut) (hp : okP L.length p) (n : Nat) (hn : n ≤ 32) : ref5_lasts L p (n : Int) = some (tear L p n) := by
  obtain ⟨a, b, c⟩ := hp
  have hlt : p.At.toNat < L.length := by omega
  have hy := hL _ (List.getElem_mem hlt)
  unfold ref5_lasts ref5_lasts_k tear
  rw [decide_eq_true (show L.length ≤ lim by rw [lim_eq]; omega), decide_eq_true (show p.At ≥ 0 from a), decide_eq_true b, inR_of a b, List.getElem?_eq_getElem hlt]
  simp only [cond_true, some_bind]
  have hm : imin (imax (n : Int) 0) (imin (p.B.length : Int) (L[p.At.toNat].length : Int)) = (n : Int) := by
    rw [c, hy]; unfold imin imax; split <;> split <;> split <;> omega
  rw [hm, cutOk_of (by omega) (by omega) (by omega), cut_front]
  simp only [cond_true]
  rw [cutOk_of (by omega) (by omega) (by omega), cut_back, decide_eq_true (by rw [lim_eq, List.length_take, List.length_drop]; omega), List.getD_eq_getElem?_getD, List.getElem?_eq_getElem hlt]
  rfl

theorem crash_loop (keep : List Int) (W : List TPut) (A : Int) (D : Bool) : ∀ (r : List TPut) (i : Nat) (L : List (List UInt8)) (o : TDisk) (n : Nat), W.drop i = r → i ≤ W.length → r.length < n → W.length ≤ 1000 → (∀ x ∈ L, x.length = 32) → L.length ≤ 1000 → (∀ p ∈ r, okP L.length p) →
    ∃ o', iter (ref5_Crash_s0 keep) n ((i : Int), ⟨L, W, A, D⟩, o) = some (⟨crashL L r (keep.drop i), W, A, D⟩, o')
  | _, _, _, _, 0, _, _, h, _, _, _, _ => absurd h (Nat.not_lt_zero _)
  | [], i, L, o, n + 1, hdr, hi, _, _, _, _, _ => by
    obtain rfl : i = W.length := Nat.le_antisymm hi (List.drop_eq_nil_iff.1 hdr)
    rw [iter_succ]
    simp only [ref5_Crash_s0, ref5_Crash_s0k, ge_dec, cond_false]
    exact ⟨_, rfl⟩
  | p :: r, i, L, o, n + 1, hdr, hi, hn, hWl, hL, hN, hp => by
    have hlt : i < W.length := by
      rcases Nat.lt_or_ge i W.length with h | h
      · exact h
      · rw [List.drop_eq_nil_iff.2 h] at hdr; cases hdr
    have hd2 : W.drop i = W[i] :: W.drop (i + 1) := List.drop_eq_getElem_cons hlt
    rw [hdr] at hd2
    obtain ⟨e1, e2⟩ := List.cons.inj hd2
    rw [List.length_cons] at hn
    have hpk := hp p (List.mem_cons_self ..)
    have hgo : ∀ k : Nat, k ≤ 32 → k = clampK (keep.drop i).head? → ∃ o', iter (ref5_Crash_s0 keep) n (wi64 ((i : Int) + 1), ⟨tear L p k, W, A, D⟩, TDisk.mk [] [] o.Arm o.Down) = some (⟨crashL L (p :: r) (keep.drop i), W, A, D⟩, o') := by
      intro k hk hk2
      rw [wi64_succ (by omega), crashL, ← hk2]
      have := crash_loop keep W A D r (i + 1) (tear L p k) (TDisk.mk [] [] o.Arm o.Down) n e2.symm hlt (by omega) hWl (tear_each hL hpk hk) (by rw [tear_len]; exact hN) (fun q hq => by rw [tear_len]; exact hp q (List.mem_cons_of_mem _ hq))
      rw [← List.tail_drop] at this
      exact this
    rw [iter_succ]
    simp only [ref5_Crash_s0, ref5_Crash_s0k]
    rw [lt_dec hlt, inR_nat hlt, Int.toNat_natCast, List.getElem?_eq_getElem hlt, ← e1]
    by_cases hk : i < keep.length
    · rw [lt_dec hk, inR_nat hk, List.getElem?_eq_getElem hk]
      simp only [cond_true, some_bind]
      have hm : imin (imax keep[i] 0) 32 = ((clampK (some keep[i]) : Nat) : Int) := by
        show imin (imax keep[i] 0) 32 = (((min (max keep[i] 0) 32).toNat : Nat) : Int)
        unfold imin imax; split <;> split <;> omega
      rw [hm, lasts_ok L hL hN p hpk _ (clampK_le _), some_bind]
      have hh : (keep.drop i).head? = some keep[i] := by rw [List.drop_eq_getElem_cons hk]; rfl
      obtain ⟨o', h⟩ := hgo _ (clampK_le (some keep[i])) (by rw [hh])
      exact ⟨o', h⟩
    · rw [decide_eq_false (show ¬ (i : Int) < (keep.length : Int) by omega)]
      simp only [cond_true, cond_false, some_bind]
      have h0 := lasts_ok L hL hN p hpk 0 (by omega)
      rw [show ((0 : Nat) : Int) = 0 from rfl] at h0
      rw [h0, some_bind]
      have hh : (keep.drop i).head? = none := by rw [List.drop_eq_nil_iff.2 (by omega)]; rfl
      obtain ⟨o', h⟩ := hgo 0 (by omega) (by rw [hh]; rfl)
      exact ⟨o', h⟩

theorem Crash_ok (d : TDisk) (hd : DOk d) (keep : List Int) : ref5_Crash fuel d keep = some ⟨crashL d.Last d.Wait keep, [], 0, false⟩ := by
  unfold ref5_Crash ref5_Crash_k ref5_Crash_l0
  obtain ⟨o', e⟩ := crash_loop keep d.Wait d.Arm d.Down d.Wait 0 d.Last (TDisk.mk [] [] 0 false) fuel rfl (Nat.zero_le _) (fuel_gt (by have := hd.wlen; omega)) hd.wlen hd.last hd.len hd.wait
  have e' : iter (ref5_Crash_s0 keep) fuel (0, d, TDisk.mk [] [] 0 false) = _ := e
  rw [e', some_bind]
  rfl

/-! Reading, by the document; a new disk -/
theorem rRead_ok (d : TDisk) (hdn : d.Down = false) (hW : d.Wait = []) (i : Nat) (h : i < d.Last.length) : ref5_Read fuel d (i : Int) = some (d.Last.getD i [], true) := by
  unfold ref5_Read ref5_Read_k
  have hi : ref5_is d (i : Int) = true := by
    unfold ref5_is ref5_is_k
    rw [hdn, decide_eq_true (show (i : Int) ≥ 0 by omega), decide_eq_true (show (i : Int) < (d.Last.length : Int) by omega)]
    rfl
  rw [hi, inR_nat h, Int.toNat_natCast, List.getElem?_eq_getElem h]
  simp only [Bool.not_true, cond_false, cond_true, some_bind]
  have hl : ref5_Read_l0 fuel (i : Int) d d.Last[i] 0 = some d.Last[i] := by
    unfold ref5_Read_l0
    rw [fuel_eq, iter_succ]
    simp only [ref5_Read_s0, ref5_Read_s0k, hW]
    rfl
  rw [hl, List.getD_eq_getElem?_getD, List.getElem?_eq_getElem h]
  rfl

theorem New_ok (n : Nat) (hn : n ≤ 64) : ref5_New fuel (n : Int) = some ⟨List.replicate n zeros, [], 0, false⟩ := by
  unfold ref5_New ref5_New_k ref5_New_l0
  obtain ⟨x, e, hx⟩ := iter_inv (step := ref5_New_s0 (n : Int)) (fun k v => ∃ i : Nat, v.1 = (i : Int) ∧ i + k = n ∧ v.2.2 = ⟨List.replicate i zeros, [], 0, false⟩) (fun r => r.2 = ⟨List.replicate n zeros, [], 0, false⟩) (fun k v hI => by
    obtain ⟨v1, v2, v3⟩ := v
    obtain ⟨i, h1, hk, h2⟩ := hI
    simp only at h1 h2
    subst h1 h2
    simp only [ref5_New_s0, ref5_New_s0k]
    by_cases hlt : i < n
    · rw [lt_dec hlt, decide_eq_true (show (n : Int) ≤ 64 by omega), decide_eq_true (show (List.replicate i zeros).length + 1 ≤ lim by rw [lim_eq, List.length_replicate]; omega), wi64_succ (by omega)]
      refine ⟨_, rfl, k - 1, by omega, i + 1, rfl, by omega, ?_⟩
      rw [List.replicate_succ']
      rfl
    · obtain rfl : i = n := by omega
      rw [ge_dec]
      exact ⟨_, rfl, rfl⟩) n (0, TDisk.mk [] [] 0 false, TDisk.mk [] [] 0 false) fuel ⟨0, rfl, by omega, rfl⟩ (fuel_gt (by omega))
  rw [e, some_bind, hx]

/-! Sectors of numbers -/
def secB (n : UInt8) (i : Nat) : UInt8 := b8 (wu8 (i8 n * 5 + (i : Int) * (i : Int)))
def sector (n : UInt8) : List UInt8 := (List.range 32).map (secB n)
theorem sector_len (n : UInt8) : (sector n).length = 32 := by unfold sector; rw [List.length_map, List.length_range]
theorem sector_ok (n : UInt8) : law6_sector fuel n = some (sector n) := by
  unfold law6_sector law6_sector_k law6_sector_l0
  have x0 := i8_lo n
  have x1 := i8_hi n
  obtain ⟨x, e, hx⟩ := iter_inv (step := law6_sector_s0 n) (fun k v => ∃ i : Nat, v.1 = (i : Int) ∧ i + k = 32 ∧ v.2 = (List.range i).map (secB n) ++ List.replicate (32 - i) 0) (fun r => r = sector n) (fun k v hI => by
    obtain ⟨v1, v2⟩ := v
    obtain ⟨i, h1, hk, h2⟩ := hI
    simp only at h1 h2
    subst h1 h2
    simp only [law6_sector_s0, law6_sector_s0k]
    have hlen : ((List.range i).map (secB n) ++ List.replicate (32 - i) (0 : UInt8)).length = 32 := by
      rw [List.length_append, List.length_map, List.length_range, List.length_replicate]; omega
    by_cases hlt : i < 32
    · have hii : (i : Int) * (i : Int) ≤ 31 * 31 := Int.mul_le_mul (by omega) (by omega) (by omega) (by omega)
      have hi0 : 0 ≤ (i : Int) * (i : Int) := Int.mul_nonneg (by omega) (by omega)
      rw [hlen, decide_eq_true (show (i : Int) < ((32 : Nat) : Int) by omega), inR_nat hlt, Int.toNat_natCast, List.getElem?_eq_getElem (show i < ((List.range i).map (secB n) ++ List.replicate (32 - i) (0 : UInt8)).length by rw [hlen]; exact hlt)]
      simp only [cond_true, some_bind]
      rw [wi64_of (show -9223372036854775808 ≤ i8 n by omega) (by omega), wi64_of (show -9223372036854775808 ≤ i8 n * 5 by omega) (by omega), wi64_of (show -9223372036854775808 ≤ (i : Int) * (i : Int) by omega) (by omega), wi64_of (show -9223372036854775808 ≤ i8 n * 5 + (i : Int) * (i : Int) by omega) (by omega), wi64_succ (by omega)]
      refine ⟨_, rfl, k - 1, by omega, i + 1, rfl, by omega, ?_⟩
      show List.set _ i _ = _
      rw [List.set_append_right _ _ (by rw [List.length_map, List.length_range]; exact Nat.le_refl _), List.length_map, List.length_range, Nat.sub_self, show 32 - i = (32 - (i + 1)) + 1 by omega, List.replicate_succ, List.set_cons_zero, List.range_succ, List.map_append, List.append_assoc]
      rfl
    · obtain rfl : i = 32 := by omega
      rw [hlen]
      exact ⟨_, rfl, by show _ = sector n; unfold sector; simp⟩) 32 (0, zeros) fuel ⟨0, rfl, rfl, rfl⟩ (fuel_gt (by omega))
  have e' : iter (law6_sector_s0 n) fuel (0, [0, 0, 0, 0, 0, 0, 0, 0, 0, 0, 0, 0, 0, 0, 0, 0, 0, 0, 0, 0, 0, 0, 0, 0, 0, 0, 0, 0, 0, 0, 0, 0]) = some x := e
  rw [e', some_bind, hx]
theorem sector_ne (n : UInt8) : zeros ≠ sector n := by
  intro h
  have h0 : secB n 0 = 0 := by
    have := congrArg (fun l => l[0]?) h
    simp only [sector, List.getElem?_map] at this
    exact (Option.some.inj this).symm
  have h1 : secB n 1 = 0 := by
    have := congrArg (fun l => l[1]?) h
    simp only [sector, List.getElem?_map] at this
    exact (Option.some.inj this).symm
  revert h0 h1
  have hall : ((List.range 256).all fun k => !(secB (UInt8.ofNat k) 0 == 0 && secB (UInt8.ofNat k) 1 == 0)) = true := by decide +kernel
  have hk := List.all_eq_true.1 hall n.toNat (List.mem_range.2 n.toNat_lt)
  rw [UInt8.ofNat_toNat] at hk
  intro h0 h1
  rw [h0, h1] at hk
  cases hk

/-- Sectors that are written. -/
def putsFrom (n : Nat) : List UInt8 → List TPut
  | [] => []
  | x :: r => bif decide (i8 (b8 ((i8 x).tmod 3)) > 0) then ⟨(n : Int), sector x⟩ :: putsFrom (n + 1) r else putsFrom (n + 1) r
theorem puts_at : ∀ (l : List UInt8) (n : Nat) (p : TPut), p ∈ putsFrom n l → (n : Int) ≤ p.At ∧ p.At < ((n + l.length : Nat) : Int) ∧ ∃ x, p.B = sector x
  | [], _, _, h => by cases h
  | x :: r, n, p, h => by
    rw [putsFrom] at h
    rw [List.length_cons]
    cases hc : decide (i8 (b8 ((i8 x).tmod 3)) > 0) with
    | true =>
      rw [hc, cond_true] at h
      rcases List.mem_cons.1 h with rfl | h
      · exact ⟨by show (n : Int) ≤ n; omega, by show (n : Int) < _; omega, x, rfl⟩
      · obtain ⟨a, b, c⟩ := puts_at r (n + 1) p h
        exact ⟨by omega, by omega, c⟩
    | false =>
      rw [hc, cond_false] at h
      obtain ⟨a, b, c⟩ := puts_at r (n + 1) p h
      exact ⟨by omega, by omega, c⟩
theorem puts_sorted : ∀ (l : List UInt8) (n : Nat), (putsFrom n l).Pairwise fun p q => p.At < q.At
  | [], _ => .nil
  | x :: r, n => by
    rw [putsFrom]
    cases decide (i8 (b8 ((i8 x).tmod 3)) > 0) with
    | true =>
      refine .cons (fun q hq => ?_) (puts_sorted r (n + 1))
      have := (puts_at r (n + 1) q hq).1
      show (n : Int) < q.At
      omega
    | false => exact puts_sorted r (n + 1)
theorem puts_len : ∀ (l : List UInt8) (n : Nat), (putsFrom n l).length ≤ l.length
  | [], _ => Nat.le_refl _
  | x :: r, n => by
    rw [putsFrom]
    have := puts_len r (n + 1)
    cases decide (i8 (b8 ((i8 x).tmod 3)) > 0) with
    | true => rw [cond_true, List.length_cons, List.length_cons]; omega
    | false => rw [cond_false, List.length_cons]; omega
theorem puts_valid (l : List UInt8) (h : l.length = 8) : Valid 8 (putsFrom 0 l) := by
  refine ⟨by have := puts_len l 0; omega, fun p hp => ?_, puts_sorted l 0⟩
  obtain ⟨a, b, x, e⟩ := puts_at l 0 p hp
  exact ⟨by omega, by omega, by rw [e]; exact sector_len x⟩

theorem puts_ok (l : List UInt8) (h : l.length = 8) : law6_puts fuel l 8 = some (putsFrom 0 l) := by
  unfold law6_puts law6_puts_k law6_puts_l0
  obtain ⟨x, e, hx⟩ := iter_inv (step := law6_puts_s0 fuel l 8) (fun k v => ∃ i : Nat, v.1 = (i : Int) ∧ i + k = 8 ∧ v.2.length ≤ i ∧ v.2 ++ putsFrom i (l.drop i) = putsFrom 0 l) (fun r => r = putsFrom 0 l) (fun k v hI => by
    obtain ⟨v1, v2⟩ := v
    obtain ⟨i, h1, hk, hle, h2⟩ := hI
    simp only at h1 hle h2
    subst h1
    simp only [law6_puts_s0, law6_puts_s0k]
    by_cases hlt : i < 8
    · have hl2 : i < l.length := by omega
      rw [List.drop_eq_getElem_cons hl2, putsFrom] at h2
      rw [decide_eq_true (show (i : Int) < 8 by omega), lt_dec hl2, inR_nat hl2, Int.toNat_natCast, List.getElem?_eq_getElem hl2]
      simp only [cond_true, some_bind]
      cases hc : decide (i8 (b8 ((i8 l[i]).tmod 3)) > 0) with
      | true =>
        rw [hc, cond_true] at h2
        simp only [cond_true, sector_ok, some_bind]
        rw [decide_eq_true (show v2.length + 1 ≤ lim by rw [lim_eq]; omega), wi64_succ (by omega)]
        refine ⟨_, rfl, k - 1, by omega, i + 1, rfl, by omega, by simp; omega, ?_⟩
        show v2 ++ [_] ++ _ = _
        rw [List.append_assoc]
        exact h2
      | false =>
        rw [hc, cond_false] at h2
        simp only [cond_false]
        rw [wi64_succ (by omega)]
        exact ⟨_, rfl, k - 1, by omega, i + 1, rfl, by omega, by show v2.length ≤ i + 1; omega, h2⟩
    · obtain rfl : i = 8 := by omega
      rw [List.drop_eq_nil_iff.2 (by omega)] at h2
      exact ⟨_, rfl, by rw [← h2]; simp [putsFrom]⟩) 8 (0, []) fuel ⟨0, rfl, rfl, Nat.le_refl _, rfl⟩ (fuel_gt (by omega))
  rw [e, some_bind, hx]
end Go.Proofs.YtddhfdbfackahaaDoor.N
