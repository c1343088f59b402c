/- Plain words for this seat (1). Plain words for this seat (2). Plain words for this seat (3). Plain words for this seat (4). Plain words for this seat (5). Plain words for this seat (6). Plain words for this seat (7). Plain words for this seat (8). Plain words for this seat (9). What lasts: which states may be; made ones may be. What lasts: writes, and made states. What lasts: which states may be, by the program and by the document. -/
import Derived.Test.YthefogjlenmgfaaSeat2
import Derived.Test.YthefogjlenmgfaaSeat4
set_option linter.unusedVariables false
set_option linter.unusedSimpArgs false
namespace Go.Proofs.Ythefogjlenmgfaa.N
open Go

theorem lt_dec {i n : Nat} (h : i < n) : decide ((i : Int) < (n : Int)) = true := decide_eq_true (by omega)
theorem ge_dec (n : Nat) : decide ((n : Int) < (n : Int)) = false := decide_eq_false (by omega)
theorem inR_nat {i n : Nat} (h : i < n) : inR (i : Int) n = true := inR_of (by omega) (by omega)
theorem wi64_succ {i : Nat} (h : i < 4294967296) : wi64 ((i : Int) + 1) = ((i + 1 : Nat) : Int) := by rw [wi64_of (by omega) (by omega)]; omega

/-! Names -/
def okc (a : UInt8) : Bool := !(decide (i8 a < 33)) && !(decide (i8 a > 126))
def mayName (s : List UInt8) : Bool := s.all okc && (decide ((s.length : Int) ≥ 1) && decide ((s.length : Int) ≤ 8))

theorem dir_May_ok (s : List UInt8) (h : s.length < 4294967296) : dir_May fuel s = some (mayName s) := by
  have hl : dir_May_l0 fuel s (s.length : Int) s 0 = some (bif s.all okc then .inr () else .inl ()) := by
    unfold dir_May_l0
    rw [← runL_all okc (Sum.inl ()) (Sum.inr ()) s]
    refine iter_list0 (xs := s) (fun i (_ : Unit) => (i : Int)) _ _ (fun i _ a ha => ?_) (fun _ => ?_) () (fuel_gt h)
    · have hi := at_of ha
      simp only [dir_May_s0, dir_May_s0k, lt_dec hi, inR_nat hi, Int.toNat_natCast, ha, cond_true, some_bind, wi64_succ (Nat.lt_trans hi h), okc]
      cases decide (i8 a < 33) <;> cases decide (i8 a > 126) <;> rfl
    · simp only [dir_May_s0, dir_May_s0k, ge_dec, cond_false]
  unfold dir_May dir_May_k
  rw [hl, some_bind]
  unfold mayName
  cases s.all okc <;> cases decide ((s.length : Int) ≥ 1) <;> rfl

theorem ref7_MayName_ok (s : List UInt8) (h : s.length < 4294967296) : ref7_MayName fuel s = some (mayName s) := by
  have hl : ref7_MayName_l0 fuel s 0 = some (bif s.all okc then .inr () else .inl ()) := by
    unfold ref7_MayName_l0
    rw [← runL_all okc (Sum.inl ()) (Sum.inr ()) s]
    refine iter_list0 (xs := s) (fun i (_ : Unit) => (i : Int)) _ _ (fun i _ a ha => ?_) (fun _ => ?_) () (fuel_gt h)
    · have hi := at_of ha
      simp only [ref7_MayName_s0, ref7_MayName_s0k, lt_dec hi, inR_nat hi, Int.toNat_natCast, ha, cond_true, some_bind, wi64_succ (Nat.lt_trans hi h), okc]
      cases decide (i8 a < 33) <;> cases decide (i8 a > 126) <;> rfl
    · simp only [ref7_MayName_s0, ref7_MayName_s0k, ge_dec, cond_false]
  unfold ref7_MayName ref7_MayName_k
  rw [hl, some_bind]
  unfold mayName
  cases s.all okc <;> cases decide ((s.length : Int) ≥ 1) <;> rfl

/-! Writes -/
/-! Sameness -/
theorem write_eqb (x y : TWrite) : TWrite.eqb x y = true ↔ x = y := by
  cases x; cases y
  simp [TWrite.eqb]

def sameW : List TWrite → List TWrite → Bool
  | [], [] => true
  | x :: a, y :: b => TWrite.eqb x y && sameW a b
  | _, _ => false

theorem sameW_iff : ∀ a b : List TWrite, sameW a b = true ↔ a = b
  | [], [] => by simp [sameW]
  | [], _ :: _ => by simp [sameW]
  | _ :: _, [] => by simp [sameW]
  | x :: a, y :: b => by simp [sameW, write_eqb, sameW_iff a b]

theorem sameW_zip : ∀ a b : List TWrite, a.length = b.length → sameW a b = (a.zip b).all fun p => TWrite.eqb p.1 p.2
  | [], [], _ => rfl
  | [], _ :: _, h => by simp at h
  | _ :: _, [], h => by simp at h
  | x :: a, y :: b, h => by
    simp only [sameW, List.zip_cons_cons, List.all_cons]
    rw [sameW_zip a b (by simpa using h)]

theorem sameW_len {a b : List TWrite} (h : a.length ≠ b.length) : sameW a b = false := by
  cases hs : sameW a b with
  | false => rfl
  | true => exact absurd (by rw [(sameW_iff a b).1 hs]) h

theorem zip_at {α β : Type} {a : List α} {b : List β} {i : Nat} {p : α × β} (h : (a.zip b)[i]? = some p) : a[i]? = some p.1 ∧ b[i]? = some p.2 := by
  rw [List.getElem?_zip_eq_some] at h
  exact h

def sameAsk (a b : TAsk) : Bool := a.Kind == b.Kind && (a.From == b.From && (a.Epoch == b.Epoch && (a.Seq == b.Seq && (a.Name == b.Name && (a.File == b.File && (a.Mode == b.Mode && sameW a.Writes b.Writes))))))

theorem sameAsk_iff (a b : TAsk) : sameAsk a b = true ↔ a = b := by
  cases a; cases b
  simp [sameAsk, sameW_iff]

theorem sameAsk_refl (a : TAsk) : sameAsk a a = true := (sameAsk_iff a a).2 rfl

theorem and_cond (a b : Bool) : (a && b) = bif a then b else false := by cases a <;> rfl

end Go.Proofs.Ythefogjlenmgfaa.N

set_option linter.unusedVariables false
set_option linter.unusedSimpArgs false
namespace Go.Proofs.Ythefogjlenmgfaa.N
open Go

def rng (lo hi v : Int) : Bool := decide (lo ≤ v) && decide (v ≤ hi)
theorem rng_iff {lo hi v : Int} : rng lo hi v = true ↔ lo ≤ v ∧ v ≤ hi := by simp [rng]
def wantW (a : TAsk) : Bool := a.Kind == 3 || a.Kind == 4
def want (a : TAsk) : TAsk :=
  bif a.Kind == 1 then ⟨a.Kind, a.From, a.Epoch, a.Seq, a.Name, 0, 0, []⟩ else
  bif a.Kind == 2 then ⟨a.Kind, a.From, a.Epoch, a.Seq, [], a.File, a.Mode, []⟩ else
  bif wantW a then ⟨a.Kind, a.From, a.Epoch, a.Seq, [], a.File, 0, a.Writes⟩ else ⟨a.Kind, a.From, a.Epoch, a.Seq, [], a.File, 0, []⟩
theorem want_len (a : TAsk) : (want a).Writes.length ≤ a.Writes.length := by
  unfold want
  cases a.Kind == 1 <;> cases a.Kind == 2 <;> cases wantW a <;> simp

theorem sameAsk_comm (a b : TAsk) : sameAsk a b = sameAsk b a := by
  cases h : sameAsk b a with
  | true => exact (sameAsk_iff _ _).2 ((sameAsk_iff _ _).1 h).symm
  | false =>
    cases h2 : sameAsk a b with
    | false => rfl
    | true => rw [((sameAsk_iff _ _).1 h2).symm, sameAsk_refl] at h; cases h

/-! Tells -/
theorem tell_eqb (x y : TTell) : TTell.eqb x y = true ↔ x = y := by
  cases x; cases y
  simp [TTell.eqb]

end Go.Proofs.Ythefogjlenmgfaa.N

set_option linter.unusedVariables false
set_option linter.unusedSimpArgs false
namespace Go.Proofs.Ythefogjlenmgfaa.N
open Go

/-! Numbers as bytes -/
def byteAt (v : Int) (k : Nat) : UInt8 := b8 (wu8 (shrI .i64 v (wi64 (8 * (k : Int)))))
def be : Nat → Int → List UInt8
  | 0, _ => []
  | k + 1, v => byteAt v k :: be k v

theorem be_len : ∀ (k : Nat) (v : Int), (be k v).length = k
  | 0, _ => rfl
  | k + 1, v => by rw [be, List.length_cons, be_len k v]

theorem put_loop (v : Int) : ∀ (i : Nat) (b : List UInt8) (n : Nat), i < n → i ≤ 8 → b.length + i ≤ lim → iter (bits_Put_s0 v) n ((i : Int) - 1, b) = some (b ++ be i v)
  | _, _, 0, h, _, _ => absurd h (Nat.not_lt_zero _)
  | 0, b, n + 1, _, _, _ => by
    rw [iter_succ]
    simp only [bits_Put_s0, bits_Put_s0k]
    rw [decide_eq_false (by omega)]
    show some b = some (b ++ [])
    rw [List.append_nil]
  | i + 1, b, n + 1, h, h8, hl => by
    rw [iter_succ]
    simp only [bits_Put_s0, bits_Put_s0k]
    have e : ((i + 1 : Nat) : Int) - 1 = (i : Int) := by omega
    rw [e, decide_eq_true (show (i : Int) ≥ 0 by omega), wi64_of (show -9223372036854775808 ≤ 8 * (i : Int) by omega) (by omega), decide_eq_false (show ¬ 8 * (i : Int) < 0 by omega), decide_eq_true (show b.length + 1 ≤ lim by omega)]
    simp only [cond_true, cond_false, some_bind, alt_inl]
    rw [wi64_of (by omega) (by omega), put_loop v i _ n (by omega) (by omega) (by rw [List.length_append]; simp only [List.length_cons, List.length_nil]; omega), List.append_assoc]
    rw [show be (i + 1) v = byteAt v i :: be i v from rfl]
    unfold byteAt
    rw [wi64_of (show -9223372036854775808 ≤ 8 * (i : Int) by omega) (by omega)]
    rfl

theorem bits_Put_ok (b : List UInt8) (v : Int) (k : Nat) (h1 : 1 ≤ k) (h8 : k ≤ 8) (hb : b.length + k ≤ lim) : bits_Put fuel b v (k : Int) = some (b ++ be k v) := by
  unfold bits_Put bits_Put_k bits_Put_l0
  rw [decide_eq_false (show ¬ (k : Int) < 1 by omega), decide_eq_false (show ¬ (k : Int) > 8 by omega), wi64_of (by omega) (by omega)]
  simp only [cond_false]
  rw [put_loop v k b fuel (fuel_gt (by omega)) h8 hb]
  rfl

theorem ref1_Put_ok (b : List UInt8) (v : Int) (k : Nat) (h1 : 1 ≤ k) (h8 : k ≤ 8) (hb : b.length + k ≤ lim) : ref1_Put fuel b v (k : Int) = some (b ++ be k v) := by
  rw [← bits_Put_ok b v k h1 h8 hb]
  unfold ref1_Put ref1_Put_k bits_Put bits_Put_k
  rw [decide_eq_true (show b.length ≤ lim by omega)]
  rfl

theorem put1 (b : List UInt8) (v : Int) (h : b.length + 1 ≤ lim) : bits_Put fuel b v 1 = some (b ++ be 1 v) := bits_Put_ok b v 1 (by omega) (by omega) h
theorem put2 (b : List UInt8) (v : Int) (h : b.length + 2 ≤ lim) : bits_Put fuel b v 2 = some (b ++ be 2 v) := bits_Put_ok b v 2 (by omega) (by omega) h
theorem put4 (b : List UInt8) (v : Int) (h : b.length + 4 ≤ lim) : bits_Put fuel b v 4 = some (b ++ be 4 v) := bits_Put_ok b v 4 (by omega) (by omega) h
theorem rput1 (b : List UInt8) (v : Int) (h : b.length + 1 ≤ lim) : ref1_Put fuel b v 1 = some (b ++ be 1 v) := ref1_Put_ok b v 1 (by omega) (by omega) h
theorem rput2 (b : List UInt8) (v : Int) (h : b.length + 2 ≤ lim) : ref1_Put fuel b v 2 = some (b ++ be 2 v) := ref1_Put_ok b v 2 (by omega) (by omega) h
theorem rput4 (b : List UInt8) (v : Int) (h : b.length + 4 ≤ lim) : ref1_Put fuel b v 4 = some (b ++ be 4 v) := ref1_Put_ok b v 4 (by omega) (by omega) h

/-! Texts -/
def txt (s : List UInt8) : List UInt8 := b8 (s.length : Int) :: s
theorem txt_len (s : List UInt8) : (txt s).length = s.length + 1 := rfl
theorem wu8_of {n : Int} (h : 0 ≤ n) (h2 : n < 256) : wu8 n = n := by unfold wu8; rw [IntKind.wrap_u8]; omega

theorem bits_Text_ok (b s : List UInt8) (hs : s.length ≤ 255) (hb : b.length + 256 ≤ lim) : bits_Text b s = some (b ++ txt s) := by
  unfold bits_Text bits_Text_k
  rw [decide_eq_false (show ¬ (s.length : Int) > 255 by omega), decide_eq_true (show b.length + 1 ≤ lim by omega), wu8_of (by omega) (by omega), decide_eq_true (by rw [List.length_append]; simp only [List.length_cons, List.length_nil]; omega)]
  simp only [cond_true, cond_false, List.append_assoc]
  rfl

theorem ref1_Text_ok (b s : List UInt8) (hs : s.length ≤ 255) (hb : b.length + 256 ≤ lim) : ref1_Text b s = some (b ++ txt s) := by
  unfold ref1_Text ref1_Text_k
  rw [decide_eq_true (show b.length ≤ lim by omega), decide_eq_false (show ¬ (s.length : Int) > 255 by omega), decide_eq_true (show b.length + 1 ≤ lim by omega), wu8_of (by omega) (by omega), decide_eq_true (by rw [List.length_append]; simp only [List.length_cons, List.length_nil]; omega)]
  simp only [cond_true, cond_false, List.append_assoc]
  rfl

/-! The checksum -/
def tn (m : Nat) : Nat := if m % 2 = 1 then (m / 2) ^^^ 40961 else m / 2
theorem tn_lt {m : Nat} (h : m < 65536) : tn m < 65536 := by
  unfold tn
  split
  · exact Nat.xor_lt_two_pow (n := 16) (by omega) (by omega)
  · omega

theorem wrap_u16 (n : Int) : IntKind.u16.wrap n = n % 65536 := by simp [IntKind.wrap, IntKind.bits, IntKind.signed]

theorem bxor_u16 {x y : Nat} (hx : x < 65536) (hy : y < 65536) : bxor .u16 (x : Int) (y : Int) = ((x ^^^ y : Nat) : Int) := by
  unfold bxor
  have h16 : IntKind.u16.bits = 16 := rfl
  rw [h16, BitVec.ofInt_natCast, BitVec.ofInt_natCast, BitVec.toNat_xor, BitVec.toNat_ofNat, BitVec.toNat_ofNat, Nat.mod_eq_of_lt (show x < 2 ^ 16 by omega), Nat.mod_eq_of_lt (show y < 2 ^ 16 by omega), wrap_u16]
  have := Nat.xor_lt_two_pow (n := 16) (show x < 2 ^ 16 by omega) (show y < 2 ^ 16 by omega)
  omega

theorem bxor_i64 {x y : Nat} (hx : x < 65536) (hy : y < 65536) : bxor .i64 (x : Int) (y : Int) = ((x ^^^ y : Nat) : Int) := by
  unfold bxor
  have h64 : IntKind.i64.bits = 64 := rfl
  rw [h64, BitVec.ofInt_natCast, BitVec.ofInt_natCast, BitVec.toNat_xor, BitVec.toNat_ofNat, BitVec.toNat_ofNat, Nat.mod_eq_of_lt (show x < 2 ^ 64 by omega), Nat.mod_eq_of_lt (show y < 2 ^ 64 by omega)]
  have := Nat.xor_lt_two_pow (n := 16) (show x < 2 ^ 16 by omega) (show y < 2 ^ 16 by omega)
  exact wi64_of (by omega) (by omega)

theorem band_u16 {x : Nat} (hx : x < 65536) : band .u16 (x : Int) 1 = ((x % 2 : Nat) : Int) := by
  unfold band
  have h16 : IntKind.u16.bits = 16 := rfl
  rw [h16, show (1 : Int) = ((1 : Nat) : Int) from rfl, BitVec.ofInt_natCast, BitVec.ofInt_natCast, BitVec.toNat_and, BitVec.toNat_ofNat, BitVec.toNat_ofNat, Nat.mod_eq_of_lt (show x < 2 ^ 16 by omega), Nat.mod_eq_of_lt (show 1 < 2 ^ 16 by omega), wrap_u16, Nat.and_one_is_mod]
  omega

theorem shr_u16 (x : Nat) : shrI .u16 (x : Int) 1 = ((x / 2 : Nat) : Int) := by
  unfold shrI
  have : min (1 : Int).toNat IntKind.u16.bits = 1 := rfl
  rw [this]
  show (x : Int).fdiv 2 = _
  rw [Int.fdiv_eq_ediv_of_nonneg _ (by omega)]
  omega

def crcByte (m : Nat) (u : UInt8) : Nat := tn (tn (tn (tn (tn (tn (tn (tn (m ^^^ u.toNat))))))))
def crcN (b : List UInt8) : Nat := b.foldl crcByte 0

theorem xor_lt {m : Nat} (h : m < 65536) (u : UInt8) : m ^^^ u.toNat < 65536 := Nat.xor_lt_two_pow (n := 16) (by omega) (by have := u.toNat_lt; omega)
theorem crcByte_lt {m : Nat} (h : m < 65536) (u : UInt8) : crcByte m u < 65536 := tn_lt (tn_lt (tn_lt (tn_lt (tn_lt (tn_lt (tn_lt (tn_lt (xor_lt h u))))))))
theorem crc_fold_lt : ∀ (b : List UInt8) {m : Nat}, m < 65536 → b.foldl crcByte m < 65536
  | [], m, h => h
  | u :: r, m, h => crc_fold_lt r (crcByte_lt h u)
theorem crcN_lt (b : List UInt8) : crcN b < 65536 := crc_fold_lt b (by omega)

/-- A walk that folds. -/
theorem runL_fold {A S : Type} (f : S → A → S) (P : S → Prop) (hf : ∀ s a, P s → P (f s a)) (g : A → S → Option (S ⊕ S)) (hg : ∀ a s, P s → g a s = some (.inl (f s a))) : ∀ (l : List A) (s : S), P s → runL g (fun s => s) l s = some (l.foldl f s)
  | [], s, _ => rfl
  | a :: r, s, h => by
    rw [runL, hg a s h, some_bind, alt_inl]
    exact runL_fold f P hf g hg r _ (hf s a h)

def sealB (b : List UInt8) : List UInt8 := b ++ be 2 (crcN b : Int)
end Go.Proofs.Ythefogjlenmgfaa.N

set_option linter.unusedVariables false
set_option linter.unusedSimpArgs false
namespace Go.Proofs.Ythefogjlenmgfaa.N
open Go

theorem lim_eq : lim = 2147483648 := rfl

def wr1 (w : TWrite) : List UInt8 := be 1 w.Off ++ txt w.B
def wrs (l : List TWrite) : List UInt8 := (l.map wr1).flatten
def headAsk (a : TAsk) : List UInt8 := be 1 a.Kind ++ (be 1 a.From ++ (be 4 a.Epoch ++ (be 4 a.Seq ++ (txt a.Name ++ (be 1 a.File ++ (be 1 a.Mode ++ be 1 (a.Writes.length : Int)))))))
def bodyAsk (a : TAsk) : List UInt8 := headAsk a ++ wrs a.Writes
theorem mayName_iff {s : List UInt8} : mayName s = true → 1 ≤ s.length ∧ s.length ≤ 8 := by
  intro h
  simp [mayName] at h
  omega

theorem wr1_len (w : TWrite) : (wr1 w).length = 2 + w.B.length := by unfold wr1; rw [List.length_append, be_len, txt_len]; omega
theorem headAsk_len (a : TAsk) : (headAsk a).length = 14 + a.Name.length := by
  unfold headAsk
  simp only [List.length_append, be_len, txt_len]
  omega

/-! Tells -/
def bodyTell (t : TTell) : List UInt8 := be 1 t.Kind ++ (be 1 t.To ++ (be 4 t.Epoch ++ (be 4 t.Seq ++ (be 1 t.Err ++ (be 1 t.File ++ (be 1 t.Mode ++ (be 4 t.Ver ++ txt t.Body)))))))
theorem bodyTell_len (t : TTell) : (bodyTell t).length = 18 + t.Body.length := by
  unfold bodyTell
  simp only [List.length_append, be_len, txt_len]
  omega

end Go.Proofs.Ythefogjlenmgfaa.N

set_option linter.unusedVariables false
set_option linter.unusedSimpArgs false
namespace Go.Proofs.Ythefogjlenmgfaa.N
open Go

/-! Numbers -/
def val (l : List UInt8) : Int := l.foldl (fun v x => v * 256 + i8 x) 0
def num (k : Nat) (b : List UInt8) : Option (Int × List UInt8) := if b.length < k then none else some (val (b.take k), b.drop k)

theorem bor_add {v x : Nat} (hv : v < 36028797018963968) (hx : x < 256) : bor .i64 (shlI .i64 (v : Int) 8) (x : Int) = (v : Int) * 256 + (x : Int) := by
  have h1 : shlI .i64 (v : Int) 8 = ((v <<< 8 : Nat) : Int) := by
    unfold shlI
    have : min (8 : Int).toNat IntKind.i64.bits = 8 := rfl
    rw [this, Nat.shiftLeft_eq]
    show wi64 ((v : Int) * 2 ^ 8) = _
    rw [wi64_of (by omega) (by omega)]
    omega
  rw [h1]
  unfold bor
  have h64 : IntKind.i64.bits = 64 := rfl
  have hs : v <<< 8 < 2 ^ 64 := by rw [Nat.shiftLeft_eq]; omega
  rw [h64, BitVec.ofInt_natCast, BitVec.ofInt_natCast, BitVec.toNat_or, BitVec.toNat_ofNat, BitVec.toNat_ofNat, Nat.mod_eq_of_lt hs, Nat.mod_eq_of_lt (show x < 2 ^ 64 by omega), ← Nat.shiftLeft_add_eq_or_of_lt (show x < 2 ^ 8 by omega), Nat.shiftLeft_eq]
  show wi64 _ = _
  rw [wi64_of (by omega) (by omega)]
  omega

theorem val_step (v : Int) (x : UInt8) (h0 : 0 ≤ v) (h1 : v < 36028797018963968) : bor .i64 (shlI .i64 v 8) (wi64 (i8 x)) = v * 256 + i8 x := by
  have e := bor_add (v := v.toNat) (x := x.toNat) (by omega) x.toNat_lt
  have hx0 := i8_lo x
  have hx1 := i8_hi x
  rw [wi64_of (by omega) (by omega)]
  have e1 : ((v.toNat : Nat) : Int) = v := by omega
  rw [e1] at e
  exact e

theorem fold_bound : ∀ (l : List UInt8) (v : Int), 0 ≤ v → 0 ≤ l.foldl (fun v x => v * 256 + i8 x) v ∧ l.foldl (fun v x => v * 256 + i8 x) v < (v + 1) * 256 ^ l.length
  | [], v, h => by simp; omega
  | x :: r, v, h => by
    have h1 := i8_lo x
    have h2 := i8_hi x
    obtain ⟨g1, g2⟩ := fold_bound r (v * 256 + i8 x) (by omega)
    refine ⟨g1, ?_⟩
    have h3 : (v * 256 + i8 x + 1) ≤ (v + 1) * 256 := by omega
    have h4 : (0 : Int) ≤ 256 ^ r.length := by have : (0 : Int) < 256 ^ r.length := Int.pow_pos (by omega); omega
    have h5 := Int.mul_le_mul_of_nonneg_right h3 h4
    have h6 : (v + 1) * 256 ^ (x :: r).length = (v + 1) * 256 * 256 ^ r.length := by rw [List.length_cons, Int.pow_succ, Int.mul_assoc, Int.mul_comm (256 ^ r.length) 256]
    rw [h6]
    exact Int.lt_of_lt_of_le g2 h5

theorem val_lo (l : List UInt8) : 0 ≤ val l := (fold_bound l 0 (Int.le_refl _)).1
theorem val_hi (l : List UInt8) : val l < 256 ^ l.length := by have := (fold_bound l 0 (Int.le_refl _)).2; rw [Int.zero_add, Int.one_mul] at this; exact this

theorem pow_le7 {k : Nat} (h : k ≤ 6) : (256 : Int) ^ k ≤ 281474976710656 := by
  have : k = 0 ∨ k = 1 ∨ k = 2 ∨ k = 3 ∨ k = 4 ∨ k = 5 ∨ k = 6 := by omega
  rcases this with rfl | rfl | rfl | rfl | rfl | rfl | rfl <;> decide

theorem take_loop (l : List UInt8) (ok : Bool) (h7 : l.length ≤ 7) : bits_Take_l0 fuel l (l.length : Int) ok 0 0 = some (val l) := by
  have key : ∀ (r p : List UInt8) (n : Nat), l = p ++ r → r.length < n → iter (bits_Take_s0 l (l.length : Int) ok) n (val p, (p.length : Int)) = some (val l) := by
    intro r
    induction r with
    | nil =>
      intro p n hp hn
      rw [List.append_nil] at hp
      subst hp
      cases n with
      | zero => exact absurd hn (Nat.not_lt_zero _)
      | succ n =>
        rw [iter_succ]
        simp only [bits_Take_s0, bits_Take_s0k, ge_dec, cond_false, some_bind, alt_inr]
    | cons x r ih =>
      intro p n hp hn
      have hlt : p.length < l.length := by rw [hp]; simp
      have hx : l[p.length]? = some x := by rw [hp]; simp
      cases n with
      | zero => exact absurd hn (Nat.not_lt_zero _)
      | succ n =>
        rw [iter_succ]
        simp only [bits_Take_s0, bits_Take_s0k, lt_dec hlt, inR_nat hlt, Int.toNat_natCast, hx, cond_true, some_bind, alt_inl]
        have hb := val_hi p
        have hp6 := pow_le7 (k := p.length) (by omega)
        rw [val_step _ _ (val_lo p) (by omega), wi64_succ (by omega)]
        have e : val p * 256 + i8 x = val (p ++ [x]) := by unfold val; rw [List.foldl_append]; rfl
        have e2 : ((p.length + 1 : Nat) : Int) = ((p ++ [x]).length : Int) := by simp
        rw [e, e2]
        exact ih (p ++ [x]) n (by rw [hp]; simp) (by simp at hn; omega)
  exact key l [] fuel rfl (fuel_gt (by omega))

theorem rtake_loop (b : List UInt8) (k : Nat) (h7 : k ≤ 7) (hk : k ≤ b.length) : ref1_Take_l0 fuel b (k : Int) 0 0 = some (val (b.take k)) := by
  have key : ∀ (r p : List UInt8) (n : Nat), b.take k = p ++ r → r.length < n → iter (ref1_Take_s0 b (k : Int)) n (val p, (p.length : Int)) = some (val (b.take k)) := by
    have hlen : (b.take k).length = k := by rw [List.length_take]; omega
    intro r
    induction r with
    | nil =>
      intro p n hp hn
      rw [List.append_nil] at hp
      have hpk : p.length = k := by rw [← hp]; exact hlen
      cases n with
      | zero => exact absurd hn (Nat.not_lt_zero _)
      | succ n =>
        rw [iter_succ]
        simp only [ref1_Take_s0, ref1_Take_s0k, hpk, ge_dec, cond_false, some_bind, alt_inr, hp]
    | cons x r ih =>
      intro p n hp hn
      have hlt : p.length < k := by rw [← hlen, hp]; simp
      have hx : b[p.length]? = some x := by
        have : (b.take k)[p.length]? = some x := by rw [hp]; simp
        rw [List.getElem?_take, if_pos hlt] at this
        exact this
      cases n with
      | zero => exact absurd hn (Nat.not_lt_zero _)
      | succ n =>
        rw [iter_succ]
        simp only [ref1_Take_s0, ref1_Take_s0k, lt_dec hlt, inR_nat (at_of hx), Int.toNat_natCast, hx, cond_true, some_bind, alt_inl]
        have hb := val_hi p
        have hb0 := val_lo p
        have hp6 := pow_le7 (k := p.length) (by omega)
        have hx0 := i8_lo x
        have hx1 := i8_hi x
        rw [wi64_of (show -9223372036854775808 ≤ val p * 256 by omega) (by omega), wi64_of (show -9223372036854775808 ≤ i8 x by omega) (by omega), wi64_of (show -9223372036854775808 ≤ val p * 256 + i8 x by omega) (by omega), wi64_succ (by omega)]
        have e : val p * 256 + i8 x = val (p ++ [x]) := by unfold val; rw [List.foldl_append]; rfl
        have e2 : ((p.length + 1 : Nat) : Int) = ((p ++ [x]).length : Int) := by simp
        rw [e, e2]
        exact ih (p ++ [x]) n (by rw [hp]; simp) (by simp at hn; omega)
  exact key (b.take k) [] fuel rfl (fuel_gt (by rw [List.length_take]; omega))

theorem cutOk_of {lo hi : Int} {n : Nat} (h1 : 0 ≤ lo) (h2 : lo ≤ hi) (h3 : hi ≤ n) : cutOk lo hi n = true := by
  unfold cutOk; simp [h1, h2, h3]
theorem cut_front {α : Type} (b : List α) (k : Nat) : cutL b 0 (k : Int) = b.take k := by
  unfold cutL; simp
theorem cut_back {α : Type} (b : List α) (k : Nat) : cutL b (k : Int) (b.length : Int) = b.drop k := by
  unfold cutL; simp

theorem bits_front_ok (b : List UInt8) (k : Nat) : bits_front b (k : Int) = some (if b.length < k then .inr () else .inl (b.take k)) := by
  unfold bits_front bits_front_k
  by_cases h : b.length < k
  · rw [decide_eq_true (show (b.length : Int) < k by omega), if_pos h]; rfl
  · rw [decide_eq_false (show ¬ (b.length : Int) < k by omega), if_neg h, cutOk_of (by omega) (by omega) (by omega), cut_front]; rfl

theorem bits_Take_ok (b : List UInt8) (k : Nat) (h1 : 1 ≤ k) (h7 : k ≤ 7) : bits_Take fuel b (k : Int) = some (match num k b with | some (v, _) => (v, true) | none => (0, false)) := by
  unfold bits_Take bits_Take_k
  rw [decide_eq_false (show ¬ (k : Int) < 1 by omega), decide_eq_false (show ¬ (k : Int) > 7 by omega), bits_front_ok]
  unfold num
  by_cases h : b.length < k
  · rw [if_pos h, if_pos h]; rfl
  · have hl : (b.take k).length = k := by rw [List.length_take]; omega
    rw [if_neg h, if_neg h]
    simp only [cond_false, some_bind, alt_inl]
    rw [take_loop _ _ (by omega)]
    rfl

theorem ref1_Take_ok (b : List UInt8) (k : Nat) (h1 : 1 ≤ k) (h7 : k ≤ 7) : ref1_Take fuel b (k : Int) = some (match num k b with | some (v, _) => (v, true) | none => (0, false)) := by
  unfold ref1_Take ref1_Take_k
  rw [decide_eq_false (show ¬ (k : Int) < 1 by omega), decide_eq_false (show ¬ (k : Int) > 7 by omega)]
  unfold num
  by_cases h : b.length < k
  · rw [if_pos h, decide_eq_true (show (b.length : Int) < k by omega)]; rfl
  · rw [if_neg h, decide_eq_false (show ¬ (b.length : Int) < k by omega)]
    simp only [cond_false]
    rw [rtake_loop _ _ h7 (by omega)]
    rfl

def rnum (k : Nat) (r : Ttenancyref13_Reader) : Int × Ttenancyref13_Reader := if r.Bad then (0, ⟨r.B, true⟩) else match num k r.B with | some (v, s) => (v, ⟨s, false⟩) | none => (0, ⟨r.B, true⟩)

/-! Texts -/
def text : List UInt8 → Option (List UInt8 × List UInt8)
  | [] => none
  | x :: r => if r.length < x.toNat then none else some (r.take x.toNat, r.drop x.toNat)

theorem text_cons (x : UInt8) (r : List UInt8) : text (x :: r) = if r.length < x.toNat then none else some (r.take x.toNat, r.drop x.toNat) := rfl

theorem take_text_ok (b : List UInt8) (hb : b.length ≤ lim) : bits_TakeText b = some (match text b with | some (s, _) => (s, (s.length : Int) + 1, true) | none => ([], 0, false)) := by
  unfold bits_TakeText bits_TakeText_k
  have h1 := bits_front_ok b 1
  rw [show ((1 : Nat) : Int) = 1 from rfl] at h1
  rw [h1]
  cases b with
  | nil => rfl
  | cons x r =>
    have hx0 := i8_lo x
    have hx1 := i8_hi x
    rw [if_neg (by simp)]
    simp only [some_bind, alt_inl]
    have h2 : inR 0 ((x :: r).take 1).length = true := inR_of (by omega) (by simp)
    have h3 : ((x :: r).take 1)[0]? = some x := rfl
    rw [h2, h3]
    simp only [cond_true, some_bind]
    rw [wi64_of (show -9223372036854775808 ≤ i8 x by omega) (by omega), wi64_of (show -9223372036854775808 ≤ i8 x + 1 by omega) (by omega)]
    rw [text_cons]
    by_cases h : r.length < x.toNat
    · rw [if_pos h, decide_eq_true (by rw [List.length_cons]; show ((r.length + 1 : Nat) : Int) < ((x.toNat : Nat) : Int) + 1; omega)]; rfl
    · have e : cutL (x :: r) 1 (i8 x + 1) = r.take x.toNat := by
        unfold cutL
        have : (i8 x + 1).toNat = x.toNat + 1 := by unfold i8; omega
        rw [this]
        simp
      rw [if_neg h, decide_eq_false (by rw [List.length_cons]; show ¬ ((r.length + 1 : Nat) : Int) < ((x.toNat : Nat) : Int) + 1; omega), cutOk_of (by omega) (by omega) (by rw [List.length_cons]; show ((x.toNat : Nat) : Int) + 1 ≤ ((r.length + 1 : Nat) : Int); omega), e]
      have e2 : ((r.take x.toNat).length : Int) = i8 x := by rw [List.length_take]; unfold i8; omega
      simp only [cond_false, cond_true, e2]

theorem text_parts {b s r : List UInt8} (h : text b = some (s, r)) : s.length ≤ 255 ∧ s.length + 1 ≤ b.length ∧ r = b.drop (s.length + 1) := by
  cases b with
  | nil => cases h
  | cons x t =>
    rw [text_cons] at h
    have hx := x.toNat_lt
    by_cases hl : t.length < x.toNat
    · rw [if_pos hl] at h; cases h
    · rw [if_neg hl] at h
      cases h
      have e : (t.take x.toNat).length = x.toNat := by rw [List.length_take]; omega
      refine ⟨by omega, by rw [List.length_cons]; omega, by rw [e]; rfl⟩

def rtext (r : Ttenancyref13_Reader) : List UInt8 × Ttenancyref13_Reader := if r.Bad then ([], ⟨r.B, true⟩) else match text r.B with | some (v, s) => (v, ⟨s, false⟩) | none => ([], ⟨r.B, true⟩)

end Go.Proofs.Ythefogjlenmgfaa.N

set_option linter.unusedVariables false
set_option linter.unusedSimpArgs false
namespace Go.Proofs.Ythefogjlenmgfaa.N
open Go

def pWrites : Nat → List UInt8 → List TWrite → Option (List TWrite × List UInt8)
  | 0, b, l => some (l, b)
  | n + 1, b, l => (num 1 b).bind fun o => (text o.2).bind fun t => pWrites n t.2 (l ++ [⟨o.1, t.1⟩])

def pAsk (b : List UInt8) : Option (TAsk × List UInt8) :=
  (num 1 b).bind fun k => (num 1 k.2).bind fun f => (num 4 f.2).bind fun e => (num 4 e.2).bind fun s => (text s.2).bind fun nm => (num 1 nm.2).bind fun fl => (num 1 fl.2).bind fun m => (num 1 m.2).bind fun n =>
    (pWrites n.1.toNat n.2 []).bind fun w => some (⟨k.1, f.1, e.1, s.1, nm.1, fl.1, m.1, w.1⟩, w.2)

theorem num_parts {k : Nat} {b : List UInt8} {v : Int} {r : List UInt8} (h : num k b = some (v, r)) : r.length + k = b.length ∧ 0 ≤ v ∧ v < 256 ^ k ∧ v = val (b.take k) ∧ r = b.drop k := by
  unfold num at h
  by_cases hl : b.length < k
  · rw [if_pos hl] at h; cases h
  · rw [if_neg hl] at h
    cases h
    have e : (b.take k).length = k := by rw [List.length_take]; omega
    have := val_hi (b.take k)
    rw [e] at this
    exact ⟨by rw [List.length_drop]; omega, val_lo _, this, rfl, rfl⟩

theorem text_lt {b s r : List UInt8} (h : text b = some (s, r)) : r.length + s.length + 1 = b.length := by
  obtain ⟨h1, h2, h3⟩ := text_parts h
  rw [h3, List.length_drop]; omega

/-- What the writes' loop comes to. -/
def wOut (o : Option (List TWrite × List UInt8)) (a : TAsk) (s : (Tmsg_reader × TAsk) ⊕ ((Tmsg_reader × TAsk × TWrite) ⊕ (Tmsg_reader × TAsk))) : Prop :=
  match o with
  | some (l, r) => s = .inr (.inr (⟨r⟩, ⟨a.Kind, a.From, a.Epoch, a.Seq, a.Name, a.File, a.Mode, l⟩))
  | none => (∃ q, s = .inl q) ∨ ∃ q, s = .inr (.inl q)

/-- What the reader of an ask comes to. -/
def rOut {α : Type} (o : Option (α × List UInt8)) (s : (α × Tmsg_reader) ⊕ Tmsg_reader) : Prop :=
  match o with
  | some (a, r) => s = .inl (a, ⟨r⟩)
  | none => ∃ q, s = .inr q

theorem pWrites_len : ∀ (n : Nat) (b : List UInt8) (l l' : List TWrite) (r : List UInt8), pWrites n b l = some (l', r) → l'.length = l.length + n ∧ r.length ≤ b.length
  | 0, b, l, l', r, h => by cases h; exact ⟨rfl, Nat.le_refl _⟩
  | n + 1, b, l, l', r, h => by
    simp only [pWrites] at h
    cases h1 : num 1 b with
    | none => rw [h1] at h; cases h
    | some p =>
      obtain ⟨o, b1⟩ := p
      rw [h1, some_bind] at h
      have g1 := num_parts h1
      cases h2 : text b1 with
      | none => simp only [h2] at h; cases h
      | some q =>
        obtain ⟨t, b2⟩ := q
        simp only [h2, some_bind] at h
        have g2 := text_lt h2
        obtain ⟨h3, h4⟩ := pWrites_len n b2 _ l' r h
        rw [List.length_append] at h3
        simp only [List.length_cons, List.length_nil] at h3
        exact ⟨by omega, by omega⟩

theorem pAsk_parts {b : List UInt8} {a : TAsk} {r : List UInt8} (h : pAsk b = some (a, r)) : a.Name.length ≤ 255 ∧ a.Writes.length ≤ 255 ∧ b ≠ [] := by
  unfold pAsk at h
  simp only [Option.bind_eq_some_iff] at h
  obtain ⟨p1, h1, p2, h2, p3, h3, p4, h4, p5, h5, p6, h6, p7, h7, p8, h8, p9, h9, h10⟩ := h
  cases h10
  have g8 := num_parts h8
  have g9 := pWrites_len _ _ _ _ _ h9
  have g10 : p8.1 < 256 := g8.2.2.1
  have g5 := text_parts h5
  refine ⟨g5.1, by rw [g9.1]; simp; omega, ?_⟩
  rintro rfl
  cases h1

/-! Equal bytes -/
def noAsk : TAsk := ⟨0, 0, 0, 0, [], 0, 0, []⟩
theorem sealB_len (b : List UInt8) : (sealB b).length = b.length + 2 := by unfold sealB; rw [List.length_append, be_len]
end Go.Proofs.Ythefogjlenmgfaa.N

set_option linter.unusedVariables false
set_option linter.unusedSimpArgs false
namespace Go.Proofs.Ythefogjlenmgfaa.N
open Go

theorem rnum_some {k : Nat} {b r : List UInt8} {v : Int} (h : num k b = some (v, r)) : rnum k ⟨b, false⟩ = (v, ⟨r, false⟩) := by unfold rnum; simp [h]
theorem rnum_none {k : Nat} {b : List UInt8} (h : num k b = none) : rnum k ⟨b, false⟩ = (0, ⟨b, true⟩) := by unfold rnum; simp [h]
theorem rnum_bad {k : Nat} {b : List UInt8} : rnum k ⟨b, true⟩ = (0, ⟨b, true⟩) := rfl
theorem rtext_some {b r s : List UInt8} (h : text b = some (s, r)) : rtext ⟨b, false⟩ = (s, ⟨r, false⟩) := by unfold rtext; simp [h]
theorem rtext_none {b : List UInt8} (h : text b = none) : rtext ⟨b, false⟩ = ([], ⟨b, true⟩) := by unfold rtext; simp [h]
theorem rtext_bad {b : List UInt8} : rtext ⟨b, true⟩ = ([], ⟨b, true⟩) := rfl

def qOut (o : Option (List TWrite × List UInt8)) (a : TAsk) (s : TAsk × Ttenancyref13_Reader × TAsk) : Prop :=
  match o with
  | some (l, r) => s.2 = (⟨r, false⟩, ⟨a.Kind, a.From, a.Epoch, a.Seq, a.Name, a.File, a.Mode, l⟩)
  | none => s.2.1.Bad = true

/-! Tells -/
def pTell (b : List UInt8) : Option (TTell × List UInt8) :=
  (num 1 b).bind fun k => (num 1 k.2).bind fun f => (num 4 f.2).bind fun e => (num 4 e.2).bind fun s => (num 1 s.2).bind fun er => (num 1 er.2).bind fun fl => (num 1 fl.2).bind fun m => (num 4 m.2).bind fun ve =>
    (text ve.2).bind fun w => some (⟨k.1, f.1, e.1, s.1, er.1, fl.1, m.1, ve.1, w.1⟩, w.2)

theorem pTell_parts {b : List UInt8} {t : TTell} {r : List UInt8} (h : pTell b = some (t, r)) : b ≠ [] := by
  rintro rfl
  cases h

def noTell : TTell := ⟨0, 0, 0, 0, 0, 0, 0, 0, []⟩
end Go.Proofs.Ythefogjlenmgfaa.N

set_option linter.unusedVariables false
set_option linter.unusedSimpArgs false
namespace Go.Proofs.Ythefogjlenmgfaa.N
open Go

theorem i8_byteAt {v : Int} (h : 0 ≤ v) (k : Nat) (hk : k ≤ 3) : i8 (byteAt v k) = v / 256 ^ k % 256 := by
  have key : ∀ s : Int, byteAt v k = b8 (wu8 s) → i8 (byteAt v k) = s % 256 := by
    intro s hs
    rw [hs]
    have e : wu8 s = s % 256 := by unfold wu8; rw [IntKind.wrap_u8]
    rw [e, i8_b8 (by omega) (by omega)]
  have h3 : k = 0 ∨ k = 1 ∨ k = 2 ∨ k = 3 := by omega
  rcases h3 with rfl | rfl | rfl | rfl
  · refine key (v / 256 ^ 0) (congrArg (fun s => b8 (wu8 s)) ?_)
    rw [wi64_of (by omega) (by omega)]
    show v.fdiv 1 = v / 1
    rw [Int.fdiv_eq_ediv_of_nonneg _ (by omega)]
  · refine key (v / 256 ^ 1) (congrArg (fun s => b8 (wu8 s)) ?_)
    rw [wi64_of (by omega) (by omega)]
    show v.fdiv 256 = v / 256
    rw [Int.fdiv_eq_ediv_of_nonneg _ (by omega)]
  · refine key (v / 256 ^ 2) (congrArg (fun s => b8 (wu8 s)) ?_)
    rw [wi64_of (by omega) (by omega)]
    show v.fdiv 65536 = v / 65536
    rw [Int.fdiv_eq_ediv_of_nonneg _ (by omega)]
  · refine key (v / 256 ^ 3) (congrArg (fun s => b8 (wu8 s)) ?_)
    rw [wi64_of (by omega) (by omega)]
    show v.fdiv 16777216 = v / 16777216
    rw [Int.fdiv_eq_ediv_of_nonneg _ (by omega)]

theorem val_be1 {v : Int} (h : 0 ≤ v) (h2 : v < 256) : val (be 1 v) = v := by
  have e0 := i8_byteAt h 0 (by omega)
  show 0 * 256 + i8 (byteAt v 0) = v
  rw [e0]
  have : (256 : Int) ^ 0 = 1 := rfl
  rw [this]
  omega
theorem val_be2 {v : Int} (h : 0 ≤ v) (h2 : v < 65536) : val (be 2 v) = v := by
  have e0 := i8_byteAt h 0 (by omega)
  have e1 := i8_byteAt h 1 (by omega)
  show (0 * 256 + i8 (byteAt v 1)) * 256 + i8 (byteAt v 0) = v
  rw [e0, e1]
  have h0 : (256 : Int) ^ 0 = 1 := rfl
  have h1 : (256 : Int) ^ 1 = 256 := rfl
  rw [h0, h1]
  omega
theorem val_be4 {v : Int} (h : 0 ≤ v) (h2 : v < 4294967296) : val (be 4 v) = v := by
  have e0 := i8_byteAt h 0 (by omega)
  have e1 := i8_byteAt h 1 (by omega)
  have e2 := i8_byteAt h 2 (by omega)
  have e3 := i8_byteAt h 3 (by omega)
  show (((0 * 256 + i8 (byteAt v 3)) * 256 + i8 (byteAt v 2)) * 256 + i8 (byteAt v 1)) * 256 + i8 (byteAt v 0) = v
  rw [e0, e1, e2, e3]
  have h0 : (256 : Int) ^ 0 = 1 := rfl
  have h1 : (256 : Int) ^ 1 = 256 := rfl
  have h2 : (256 : Int) ^ 2 = 65536 := rfl
  have h3 : (256 : Int) ^ 3 = 16777216 := rfl
  rw [h0, h1, h2, h3]
  omega

theorem num_be {k : Nat} {v : Int} (h : val (be k v) = v) (s : List UInt8) : num k (be k v ++ s) = some (v, s) := by
  unfold num
  have e : (be k v).length = k := be_len k v
  rw [if_neg (by rw [List.length_append]; omega)]
  have h1 : (be k v ++ s).take k = be k v := by rw [List.take_append_of_le_length (by omega), List.take_of_length_le (by omega)]
  have h2 : (be k v ++ s).drop k = s := by rw [List.drop_append_of_le_length (by omega), List.drop_of_length_le (by omega)]; rfl
  rw [h1, h2, h]

theorem num1 {v : Int} (h : 0 ≤ v) (h2 : v < 256) (s : List UInt8) : num 1 (be 1 v ++ s) = some (v, s) := num_be (val_be1 h h2) s
theorem num4 {v : Int} (h : 0 ≤ v) (h2 : v < 4294967296) (s : List UInt8) : num 4 (be 4 v ++ s) = some (v, s) := num_be (val_be4 h h2) s

theorem text_txt (t s : List UInt8) (h : t.length ≤ 255) : text (txt t ++ s) = some (t, s) := by
  show text (b8 (t.length : Int) :: (t ++ s)) = _
  have e : (b8 (t.length : Int)).toNat = t.length := by
    have := i8_b8 (n := (t.length : Int)) (by omega) (by omega)
    unfold i8 at this
    omega
  rw [text_cons, e, if_neg (by rw [List.length_append]; omega), List.take_append_of_le_length (by omega), List.take_of_length_le (by omega), List.drop_append_of_le_length (by omega), List.drop_of_length_le (by omega)]
  rfl

/-! Longer bytes read the same at the front -/
theorem num_app {k : Nat} {b : List UInt8} {v : Int} {r : List UInt8} (h : num k b = some (v, r)) (s : List UInt8) : num k (b ++ s) = some (v, r ++ s) := by
  obtain ⟨h1, _, _, h4, h5⟩ := num_parts h
  unfold num
  rw [if_neg (by rw [List.length_append]; omega), List.take_append_of_le_length (by omega), List.drop_append_of_le_length (by omega), ← h4, ← h5]

theorem text_app {b t r : List UInt8} (h : text b = some (t, r)) (s : List UInt8) : text (b ++ s) = some (t, r ++ s) := by
  cases b with
  | nil => cases h
  | cons x q =>
    rw [text_cons] at h
    by_cases hl : q.length < x.toNat
    · rw [if_pos hl] at h; cases h
    · rw [if_neg hl] at h
      cases h
      rw [List.cons_append, text_cons, if_neg (by rw [List.length_append]; omega), List.take_append_of_le_length (by omega), List.drop_append_of_le_length (by omega)]

theorem pWrites_app : ∀ (n : Nat) (b : List UInt8) (l l' : List TWrite) (r s : List UInt8), pWrites n b l = some (l', r) → pWrites n (b ++ s) l = some (l', r ++ s)
  | 0, b, l, l', r, s, h => by cases h; rfl
  | n + 1, b, l, l', r, s, h => by
    simp only [pWrites, Option.bind_eq_some_iff] at h ⊢
    obtain ⟨o, h1, t, h2, h3⟩ := h
    exact ⟨(o.1, o.2 ++ s), num_app h1 s, (t.1, t.2 ++ s), text_app h2 s, pWrites_app n _ _ _ _ s h3⟩

theorem pAsk_app {b : List UInt8} {a : TAsk} {r : List UInt8} (h : pAsk b = some (a, r)) (s : List UInt8) : pAsk (b ++ s) = some (a, r ++ s) := by
  unfold pAsk at h ⊢
  simp only [Option.bind_eq_some_iff] at h ⊢
  obtain ⟨p1, h1, p2, h2, p3, h3, p4, h4, p5, h5, p6, h6, p7, h7, p8, h8, p9, h9, h10⟩ := h
  cases h10
  exact ⟨(p1.1, p1.2 ++ s), num_app h1 s, (p2.1, p2.2 ++ s), num_app h2 s, (p3.1, p3.2 ++ s), num_app h3 s, (p4.1, p4.2 ++ s), num_app h4 s, (p5.1, p5.2 ++ s), text_app h5 s, (p6.1, p6.2 ++ s), num_app h6 s, (p7.1, p7.2 ++ s), num_app h7 s, (p8.1, p8.2 ++ s), num_app h8 s, (p9.1, p9.2 ++ s), pWrites_app _ _ _ _ _ s h9, rfl⟩

theorem pTell_app {b : List UInt8} {a : TTell} {r : List UInt8} (h : pTell b = some (a, r)) (s : List UInt8) : pTell (b ++ s) = some (a, r ++ s) := by
  unfold pTell at h ⊢
  simp only [Option.bind_eq_some_iff] at h ⊢
  obtain ⟨p1, h1, p2, h2, p3, h3, p4, h4, p5, h5, p6, h6, p7, h7, p8, h8, p9, h9, h10⟩ := h
  cases h10
  exact ⟨(p1.1, p1.2 ++ s), num_app h1 s, (p2.1, p2.2 ++ s), num_app h2 s, (p3.1, p3.2 ++ s), num_app h3 s, (p4.1, p4.2 ++ s), num_app h4 s, (p5.1, p5.2 ++ s), num_app h5 s, (p6.1, p6.2 ++ s), num_app h6 s, (p7.1, p7.2 ++ s), num_app h7 s, (p8.1, p8.2 ++ s), num_app h8 s, (p9.1, p9.2 ++ s), text_app h9 s, rfl⟩

/-! One turned byte -/
theorem tn_inj {m m' : Nat} (h : m < 65536) (h' : m' < 65536) (e : tn m = tn m') : m = m' := by
  have cross : ∀ {x y : Nat}, x < 32768 → y < 32768 → x ^^^ 40961 = y → False := by
    intro x y hx hy hxy
    have h1 : x ^^^ y = 40961 := by rw [← hxy, ← Nat.xor_assoc, Nat.xor_self, Nat.zero_xor]
    have h2 := Nat.xor_lt_two_pow (n := 15) (show x < 2 ^ 15 by omega) (show y < 2 ^ 15 by omega)
    omega
  unfold tn at e
  by_cases h1 : m % 2 = 1
  · rw [if_pos h1] at e
    by_cases h2 : m' % 2 = 1
    · rw [if_pos h2] at e
      have : m / 2 = m' / 2 := by
        have := congrArg (· ^^^ 40961) e
        simp only [Nat.xor_assoc, Nat.xor_self, Nat.xor_zero] at this
        exact this
      omega
    · rw [if_neg h2] at e
      exact (cross (by omega) (by omega) e).elim
  · rw [if_neg h1] at e
    by_cases h2 : m' % 2 = 1
    · rw [if_pos h2] at e
      exact (cross (by omega) (by omega) e.symm).elim
    · rw [if_neg h2] at e
      omega

theorem tn8_inj {m m' : Nat} (h : m < 65536) (h' : m' < 65536) (e : tn (tn (tn (tn (tn (tn (tn (tn m))))))) = tn (tn (tn (tn (tn (tn (tn (tn m')))))))) : m = m' := by
  have l1 := tn_lt h; have l2 := tn_lt l1; have l3 := tn_lt l2; have l4 := tn_lt l3; have l5 := tn_lt l4; have l6 := tn_lt l5; have l7 := tn_lt l6
  have k1 := tn_lt h'; have k2 := tn_lt k1; have k3 := tn_lt k2; have k4 := tn_lt k3; have k5 := tn_lt k4; have k6 := tn_lt k5; have k7 := tn_lt k6
  exact tn_inj h h' (tn_inj l1 k1 (tn_inj l2 k2 (tn_inj l3 k3 (tn_inj l4 k4 (tn_inj l5 k5 (tn_inj l6 k6 (tn_inj l7 k7 e)))))))

theorem xor_right_inj {a b c : Nat} (h : c ^^^ a = c ^^^ b) : a = b := by
  have := congrArg (c ^^^ ·) h
  simp only [← Nat.xor_assoc, Nat.xor_self, Nat.zero_xor] at this
  exact this

theorem crcByte_inj_u {m : Nat} (h : m < 65536) {u u' : UInt8} (e : crcByte m u = crcByte m u') : u = u' :=
  UInt8.toNat_inj.1 (xor_right_inj (tn8_inj (xor_lt h u) (xor_lt h u') e))

theorem crcByte_inj_m {m m' : Nat} (h : m < 65536) (h' : m' < 65536) {u : UInt8} (e : crcByte m u = crcByte m' u) : m = m' := by
  have := tn8_inj (xor_lt h u) (xor_lt h' u) e
  rw [Nat.xor_comm m, Nat.xor_comm m'] at this
  exact xor_right_inj this

theorem crc_fold_inj : ∀ (l : List UInt8) {m m' : Nat}, m < 65536 → m' < 65536 → l.foldl crcByte m = l.foldl crcByte m' → m = m'
  | [], m, m', _, _, e => e
  | u :: r, m, m', h, h', e => crcByte_inj_m h h' (crc_fold_inj r (crcByte_lt h u) (crcByte_lt h' u) e)

theorem crc_turned : ∀ (l : List UInt8) (m j : Nat) (y y' : UInt8), m < 65536 → l[j]? = some y → y' ≠ y → (l.set j y').foldl crcByte m ≠ l.foldl crcByte m
  | [], m, j, y, y', _, hy, _ => by simp at hy
  | u :: r, m, 0, y, y', h, hy, hne => by
    simp at hy
    subst hy
    intro e
    exact hne (crcByte_inj_u h (crc_fold_inj r (crcByte_lt h _) (crcByte_lt h _) e))
  | u :: r, m, j + 1, y, y', h, hy, hne => by
    intro e
    exact crc_turned r (crcByte m u) j y y' (crcByte_lt h u) (by simpa using hy) hne e

/-- Sealed bytes with one byte turned are no sealed bytes. -/
theorem seal_turned {p q : List UInt8} {j : Nat} {y y' : UInt8} (hy : (sealB p)[j]? = some y) (hne : y' ≠ y) (e : (sealB p).set j y' = sealB q) : False := by
  have hl : p.length = q.length := by
    have := congrArg List.length e
    rw [List.length_set, sealB_len, sealB_len] at this
    omega
  unfold sealB at hy e
  have hj : j < p.length + 2 := by
    have := at_of hy
    rw [List.length_append, be_len] at this
    exact this
  by_cases hjp : j < p.length
  · rw [List.set_append_left _ _ hjp] at e
    obtain ⟨e1, e2⟩ := List.append_inj e (by rw [List.length_set]; exact hl)
    have hy' : p[j]? = some y := by rw [List.getElem?_append_left hjp] at hy; exact hy
    have hc : crcN p = crcN q := by
      have h1 := congrArg val e2
      have l1 := crcN_lt p
      have l2 := crcN_lt q
      rw [val_be2 (by omega) (by omega), val_be2 (by omega) (by omega)] at h1
      omega
    rw [← e1] at hc
    exact crc_turned p 0 j y y' (by omega) hy' hne hc.symm
  · have h1 : j ≥ p.length := by omega
    rw [List.set_append_right _ _ h1] at e
    obtain ⟨e1, e2⟩ := List.append_inj e hl
    subst e1
    rw [List.getElem?_append_right h1] at hy
    have h2 : ((be 2 (crcN p : Int)).set (j - p.length) y')[j - p.length]? = (be 2 (crcN p : Int))[j - p.length]? := by rw [e2]
    rw [List.getElem?_set_self (at_of hy), hy] at h2
    exact hne (Option.some.inj h2)

theorem bxor_u8 (x y : UInt8) : b8 (bxor .u8 (i8 x) (i8 y)) = x ^^^ y := by
  unfold bxor i8
  have h8 : IntKind.u8.bits = 8 := rfl
  have hx := x.toNat_lt
  have hy := y.toNat_lt
  rw [h8, BitVec.ofInt_natCast, BitVec.ofInt_natCast, BitVec.toNat_xor, BitVec.toNat_ofNat, BitVec.toNat_ofNat, Nat.mod_eq_of_lt (show x.toNat < 2 ^ 8 by omega), Nat.mod_eq_of_lt (show y.toNat < 2 ^ 8 by omega), IntKind.wrap_u8]
  have hlt := Nat.xor_lt_two_pow (n := 8) hx hy
  have e : (((x.toNat ^^^ y.toNat : Nat) : Int) % 256) = ((x.toNat ^^^ y.toNat : Nat) : Int) := by omega
  rw [e]
  unfold b8
  rw [Int.toNat_natCast, ← UInt8.toNat_xor, UInt8.ofNat_toNat]

theorem turned_ne {x y : UInt8} (h : i8 y ≠ 0) : b8 (bxor .u8 (i8 x) (i8 y)) ≠ x := by
  rw [bxor_u8]
  intro e
  have h1 := congrArg UInt8.toNat e
  rw [UInt8.toNat_xor] at h1
  have h2 : x.toNat ^^^ y.toNat = x.toNat ^^^ 0 := by rw [h1, Nat.xor_zero]
  have h3 := xor_right_inj h2
  apply h
  unfold i8
  omega

end Go.Proofs.Ythefogjlenmgfaa.N

set_option linter.unusedVariables false
set_option linter.unusedSimpArgs false
namespace Go.Proofs.Ythefogjlenmgfaa.N
open Go

def pok (p : Ttenancymade_Picks) : Prop := 0 ≤ p.n ∧ p.n ≤ 1000 ∧ p.l.length ≤ 1000

theorem made_ok (l : List UInt8) (h : l.length ≤ 1000) : pok (made_Made l) := ⟨Int.le_refl _, by show (0 : Int) ≤ 1000; omega, h⟩

theorem Num_ok (p : Ttenancymade_Picks) (hp : pok p) (m : Int) (h1 : 1 ≤ m) : ∃ r, made_Picks_Num m p = some r ∧ 0 ≤ r.1 ∧ r.1 < m ∧ pok r.2 := by
  obtain ⟨l, n⟩ := p
  obtain ⟨g1, g2, g3⟩ := hp
  simp only at g1 g2 g3
  unfold made_Picks_Num made_Picks_Num_k
  simp only
  by_cases hn : n ≥ (l.length : Int)
  · rw [decide_eq_true hn]
    exact ⟨_, rfl, Int.le_refl _, by show (0 : Int) < m; omega, g1, g2, g3⟩
  · rw [decide_eq_false hn, decide_eq_false (show ¬ m < 1 by omega), wi64_of (show -9223372036854775808 ≤ n + 1 by omega) (by omega)]
    have e : n + 1 - 1 = n := by omega
    rw [e, wi64_of (by omega) (by omega), inR_of g1 (by omega)]
    have hlt : n.toNat < l.length := by omega
    have hm : (m == 0) = false := by simp; omega
    rw [List.getElem?_eq_getElem hlt, hm]
    simp only [cond_false, cond_true, some_bind]
    have hx0 := i8_lo l[n.toNat]
    have hx1 := i8_hi l[n.toNat]
    rw [wi64_of (by omega) (by omega), Int.tmod_eq_emod_of_nonneg hx0]
    exact ⟨_, rfl, Int.emod_nonneg _ (by omega), Int.emod_lt_of_pos _ (by omega), by show 0 ≤ n + 1; omega, by show n + 1 ≤ 1000; omega, g3⟩

theorem sameAsk_mk (k f e s : Int) (nm : List UInt8) (fl m : Int) (ws : List TWrite) : sameAsk ⟨k, f, e, s, nm, fl, m, ws⟩ ⟨k, f, e, s, nm, fl, m, ws⟩ = true := sameAsk_refl _

end Go.Proofs.Ythefogjlenmgfaa.N

set_option linter.unusedVariables false
set_option linter.unusedSimpArgs false
namespace Go.Proofs.Ythefogjlenmgfaa.N
open Go

theorem iter_inv {V X : Type} {step : V → Option (V ⊕ X)} (I : Nat → V → Prop) (Q : X → Prop)
    (h : ∀ k v, I k v → ∃ o, step v = some o ∧ Sum.elim (fun v' => ∃ k', k' < k ∧ I k' v') Q o) :
    ∀ (k : Nat) (v : V) (n : Nat), I k v → k < n → ∃ x, iter step n v = some x ∧ Q x := by
  intro k
  induction k using Nat.strongRecOn with
  | _ k ih =>
    intro v n hi hn
    obtain ⟨o, ho, hq⟩ := h k v hi
    cases n with
    | zero => omega
    | succ n =>
      rw [iter_succ, ho]
      cases o with
      | inl v' =>
        obtain ⟨k', h1, h2⟩ := hq
        exact ih k' h1 v' n h2 (by omega)
      | inr x => exact ⟨x, rfl, hq⟩

def noFile : TFile := ⟨[], 0, []⟩
def fileOk (f : TFile) : Prop := f = noFile ∨ (mayName f.Name = true ∧ 1 ≤ f.Ver ∧ f.Ver ≤ 1073741824 ∧ f.Body.length ≤ 24)
def markOk (B : Int) (m : TMark) : Prop := 0 ≤ m.Seq ∧ m.Seq ≤ B ∧ 0 ≤ m.Err ∧ m.Err ≤ 3 ∧ 0 ≤ m.File ∧ m.File ≤ 6 ∧ 0 ≤ m.Ver ∧ m.Ver ≤ 1073741824
def once (l : List TFile) : Prop := ∀ (i j : Nat) (f g : TFile), l[i]? = some f → l[j]? = some g → f.Name ≠ [] → f.Name = g.Name → i = j
structure Good (B : Int) (s : TState) : Prop where
  nf : s.Files.length = 6
  nm : s.Marks.length = 3
  e0 : 0 ≤ s.Epoch
  e1 : s.Epoch ≤ 1073741824
  fs : ∀ f ∈ s.Files, fileOk f
  on : once s.Files
  ms : ∀ m ∈ s.Marks, markOk B m

theorem fileOk.name {f : TFile} (h : fileOk f) : f.Name.length ≤ 8 := by
  rcases h with rfl | ⟨h, _⟩
  · decide
  · exact (mayName_iff h).2
theorem fileOk.body {f : TFile} (h : fileOk f) : f.Body.length ≤ 24 := by
  rcases h with rfl | ⟨_, _, _, h⟩
  · decide
  · exact h
theorem fileOk.ver {f : TFile} (h : fileOk f) : 0 ≤ f.Ver ∧ f.Ver ≤ 1073741824 := by
  rcases h with rfl | ⟨_, h1, h2, _⟩
  · decide
  · exact ⟨by omega, h2⟩
theorem fileOk.none {f : TFile} (h : fileOk f) (hn : f.Name = []) : f = noFile := by
  rcases h with h | ⟨h, _⟩
  · exact h
  · have := (mayName_iff h).1
    rw [hn] at this
    simp at this
theorem fileOk.some {f : TFile} (h : fileOk f) (hn : f.Name ≠ []) : mayName f.Name = true ∧ 1 ≤ f.Ver := by
  rcases h with rfl | ⟨h, h2, _⟩
  · exact absurd rfl hn
  · exact ⟨h, h2⟩
theorem markOk.mono {B B' : Int} {m : TMark} (h : markOk B m) (hb : B ≤ B') : markOk B' m := ⟨h.1, Int.le_trans h.2.1 hb, h.2.2⟩
theorem Good.mono {B B' : Int} {s : TState} (h : Good B s) (hb : B ≤ B') : Good B' s := ⟨h.nf, h.nm, h.e0, h.e1, h.fs, h.on, fun m hm => (h.ms m hm).mono hb⟩

theorem mk_mark {B q e f v : Int} (hq : 0 ≤ q) (hq2 : q ≤ B) (e0 : 0 ≤ e) (e1 : e ≤ 3) (f0 : 0 ≤ f) (f1 : f ≤ 6) (v0 : 0 ≤ v) (v1 : v ≤ 1073741824) : markOk B ⟨q, e, f, v⟩ := ⟨hq, hq2, e0, e1, f0, f1, v0, v1⟩
theorem mk_file {n b : List UInt8} {v : Int} (h : mayName n = true) (v0 : 1 ≤ v) (v1 : v ≤ 1073741824) (hb : b.length ≤ 24) : fileOk ⟨n, v, b⟩ := .inr ⟨h, v0, v1, hb⟩

def newState : TState := ⟨[noFile, noFile, noFile, noFile, noFile, noFile], [⟨0, 0, 0, 0⟩, ⟨0, 0, 0, 0⟩, ⟨0, 0, 0, 0⟩], 0⟩
theorem new_ok : Good 1 newState := by
  refine ⟨rfl, rfl, by decide, by decide, fun f hf => ?_, fun i j f g hi _ hn _ => ?_, fun m hm => ?_⟩
  · simp only [newState, List.mem_cons, List.not_mem_nil, or_false, or_self] at hf
    exact .inl hf
  · have : f ∈ newState.Files := List.mem_of_getElem? hi
    simp only [newState, List.mem_cons, List.not_mem_nil, or_false, or_self] at this
    rw [this] at hn
    exact absurd rfl hn
  · simp only [newState, List.mem_cons, List.not_mem_nil, or_false, or_self] at hm
    subst hm
    exact ⟨by decide, by decide, by decide, by decide, by decide, by decide, by decide, by decide⟩

/-! Marks -/
theorem PutMark_ok {B : Int} (l : List TMark) (hl : l.length = 3) (h : ∀ m ∈ l, markOk B m) (c : Int) (h1 : 1 ≤ c) (h3 : c ≤ 3) (m : TMark) (hm : markOk B m) :
    ∃ r, ref7_PutMark l c m = some r ∧ r.length = 3 ∧ ∀ x ∈ r, markOk B x := by
  unfold ref7_PutMark ref7_PutMark_k
  have hlt : (c - 1).toNat < l.length := by omega
  rw [decide_eq_true (show l.length ≤ lim by rw [lim_eq]; omega), decide_eq_true (show c ≥ 1 from h1), decide_eq_true (show c ≤ (l.length : Int) by omega), wi64_of (by omega) (by omega), inR_of (by omega) (by omega),
    List.getElem?_eq_getElem hlt]
  simp only [cond_true, some_bind]
  cases decide (m.Seq > l[(c - 1).toNat].Seq) with
  | false => exact ⟨l, rfl, hl, h⟩
  | true =>
    refine ⟨_, rfl, by rw [List.length_set]; exact hl, fun x hx => ?_⟩
    rcases List.mem_or_eq_of_mem_set hx with hx | rfl
    · exact h x hx
    · exact hm

theorem once_set {l : List TFile} (h : once l) (n : Nat) (f : TFile) (hf : f.Name = [] ∨ ∀ (j : Nat) g, l[j]? = some g → g.Name = f.Name → j = n) : once (l.set n f) := by
  intro i j x y hi hj hx he
  rw [List.getElem?_set] at hi hj
  by_cases h1 : n = i
  · by_cases h2 : n = j
    · omega
    · rw [if_neg h2] at hj
      rw [if_pos h1] at hi
      split at hi
      · cases hi
        rcases hf with hf | hf
        · exact absurd hf hx
        · have := hf j y hj he.symm
          omega
      · cases hi
  · rw [if_neg h1] at hi
    by_cases h2 : n = j
    · rw [if_pos h2] at hj
      split at hj
      · cases hj
        rcases hf with hf | hf
        · rw [hf] at he; exact absurd he hx
        · have := hf i x hi he
          omega
      · cases hj
    · rw [if_neg h2] at hj
      exact h i j x y hi hj hx he

theorem marked_none {B : Int} {s : TState} (hs : Good B s) (c : Int) (h1 : 1 ≤ c) (h3 : c ≤ 3) (m : TMark) (hm : markOk B m) (f : TFile) :
    ∃ t, ref7_marked s c m 0 f = some t ∧ Good B t := by
  obtain ⟨r, e, g1, g2⟩ := PutMark_ok s.Marks hs.nm hs.ms c h1 h3 m hm
  unfold ref7_marked ref7_marked_k
  rw [e, some_bind, decide_eq_true (show s.Files.length ≤ lim by rw [lim_eq, hs.nf]; omega)]
  exact ⟨_, rfl, hs.nf, g1, hs.e0, hs.e1, hs.fs, hs.on, g2⟩

theorem marked_at {B : Int} {s : TState} (hs : Good B s) (c : Int) (h1 : 1 ≤ c) (h3 : c ≤ 3) (m : TMark) (hm : markOk B m) (n : Nat) (hn : n < 6) (f : TFile) (hf : fileOk f) (hf2 : f.Name = [] ∨ ∀ (j : Nat) g, s.Files[j]? = some g → g.Name = f.Name → j = n) :
    ∃ t, ref7_marked s c m ((n : Int) + 1) f = some t ∧ Good B t := by
  obtain ⟨r, e, g1, g2⟩ := PutMark_ok s.Marks hs.nm hs.ms c h1 h3 m hm
  have hlt : n < s.Files.length := by rw [hs.nf]; exact hn
  unfold ref7_marked ref7_marked_k
  rw [e, some_bind, decide_eq_true (show s.Files.length ≤ lim by rw [lim_eq, hs.nf]; omega), decide_eq_true (show (n : Int) + 1 > 0 by omega), wi64_of (by omega) (by omega), show (n : Int) + 1 - 1 = (n : Int) by omega,
    inR_nat hlt, Int.toNat_natCast, List.getElem?_eq_getElem hlt]
  refine ⟨_, rfl, by show (s.Files.set n f).length = 6; rw [List.length_set]; exact hs.nf, g1, hs.e0, hs.e1, fun x hx => ?_, once_set hs.on n f hf2, g2⟩
  rcases List.mem_or_eq_of_mem_set hx with hx | rfl
  · exact hs.fs x hx
  · exact hf

/-! Names -/
def found (l : List TFile) (name : List UInt8) (r : Int × Bool) : Prop :=
  (r.2 = true ∧ mayName name = true ∧ ∃ (i : Nat) (f : TFile), r.1 = (i : Int) + 1 ∧ l[i]? = some f ∧ f.Name = name ∧ ∀ (j : Nat) g, j < i → l[j]? = some g → g.Name ≠ name) ∨
  (r = (0, false) ∧ (mayName name = true → ∀ (j : Nat) g, l[j]? = some g → g.Name ≠ name))

theorem beq_of {α : Type} [BEq α] [LawfulBEq α] {a b : α} (h : a = b) : (a == b) = true := by rw [h]; exact beq_self_eq_true b
theorem beq_ne {α : Type} [BEq α] [LawfulBEq α] {a b : α} (h : a ≠ b) : (a == b) = false := by
  cases hb : a == b with
  | false => rfl
  | true => exact absurd (eq_of_beq hb) h

theorem Find_ok (l : List TFile) (name : List UInt8) (hl : l.length ≤ 1000) (hn : name.length < 4294967296) : ∃ r, ref7_Find fuel l name = some r ∧ found l name r := by
  unfold ref7_Find ref7_Find_k ref7_Find_l0
  obtain ⟨x, e, hx⟩ := iter_inv (step := ref7_Find_s0 fuel l name) (fun k v => ∃ i : Nat, v = (i : Int) ∧ i + k = l.length ∧ ∀ (j : Nat) g, j < i → l[j]? = some g → g.Name ≠ name)
    (fun o => Sum.elim (fun a => found l name (a, true)) (fun _ => found l name (0, false)) o) (fun k v hI => by
    obtain ⟨i, rfl, hk, hj⟩ := hI
    simp only [ref7_Find_s0, ref7_Find_s0k, ref7_MayName_ok name hn, some_bind]
    by_cases hi : i < l.length
    · rw [lt_dec hi]
      cases hm : mayName name with
      | false => exact ⟨_, rfl, .inr ⟨rfl, fun h => by rw [hm] at h; cases h⟩⟩
      | true =>
        simp only [cond_true]
        rw [inR_nat hi, Int.toNat_natCast, List.getElem?_eq_getElem hi]
        simp only [cond_true, some_bind]
        rw [wi64_succ (by omega)]
        by_cases hnm : l[i].Name = name
        · rw [beq_of hnm]
          exact ⟨_, rfl, .inl ⟨rfl, hm, i, l[i], by show ((i + 1 : Nat) : Int) = _; omega, List.getElem?_eq_getElem hi, hnm, hj⟩⟩
        · rw [beq_ne hnm]
          refine ⟨_, rfl, k - 1, by omega, i + 1, rfl, by omega, fun j g hji hg => ?_⟩
          by_cases h : j = i
          · subst h
            rw [List.getElem?_eq_getElem hi] at hg
            cases hg
            exact hnm
          · exact hj j g (by omega) hg
    · obtain rfl : i = l.length := by omega
      rw [ge_dec]
      refine ⟨_, rfl, .inr ⟨rfl, fun _ j g hg => hj j g (at_of hg) hg⟩⟩) l.length (0 : Int) fuel ⟨0, rfl, by omega, fun j g h => by omega⟩ (fuel_gt (by omega))
  rw [e, some_bind]
  cases x with
  | inl a => exact ⟨_, rfl, hx⟩
  | inr a => exact ⟨_, rfl, hx⟩

def roomy (l : List TFile) (r : Int × Bool) : Prop :=
  (r.2 = true ∧ ∃ (i : Nat) (f : TFile), r.1 = (i : Int) + 1 ∧ l[i]? = some f ∧ f.Name = []) ∨ (r.2 = false)

theorem Room_ok (l : List TFile) (hl : l.length ≤ 1000) : ∃ r, ref7_Room fuel l = some r ∧ roomy l r := by
  unfold ref7_Room ref7_Room_k ref7_Room_l0
  obtain ⟨x, e, hx⟩ := iter_inv (step := ref7_Room_s0 l) (fun k v => ∃ i : Nat, v = (i : Int) ∧ i + k = l.length)
    (fun o => Sum.elim (fun a => roomy l (a, true)) (fun _ => roomy l (0, false)) o) (fun k v hI => by
    obtain ⟨i, rfl, hk⟩ := hI
    simp only [ref7_Room_s0, ref7_Room_s0k]
    by_cases hi : i < l.length
    · rw [lt_dec hi, inR_nat hi, Int.toNat_natCast, List.getElem?_eq_getElem hi]
      simp only [cond_true, some_bind]
      rw [wi64_succ (by omega)]
      by_cases hnm : l[i].Name = []
      · rw [beq_of hnm]
        exact ⟨_, rfl, .inl ⟨rfl, i, l[i], by show ((i + 1 : Nat) : Int) = _; omega, List.getElem?_eq_getElem hi, hnm⟩⟩
      · rw [beq_ne hnm]
        exact ⟨_, rfl, k - 1, by omega, i + 1, rfl, by omega⟩
    · obtain rfl : i = l.length := by omega
      rw [ge_dec]
      exact ⟨_, rfl, .inr rfl⟩) l.length (0 : Int) fuel ⟨0, rfl, by omega⟩ (fuel_gt (by omega))
  rw [e, some_bind]
  cases x with
  | inl a => exact ⟨_, rfl, hx⟩
  | inr a => exact ⟨_, rfl, hx⟩

theorem Open_ok {B : Int} {s : TState} (hs : Good B s) (c : Int) (h1 : 1 ≤ c) (h3 : c ≤ 3) (q : Int) (hq : 0 ≤ q) (hq2 : q ≤ B) (name : List UInt8) (hn : name.length < 4294967296) :
    ∃ t, ref7_Open fuel s c q name = some t ∧ Good B t.1 := by
  unfold ref7_Open ref7_Open_k
  rw [ref7_MayName_ok name hn, some_bind]
  cases hm : mayName name with
  | false =>
    obtain ⟨t, e, ht⟩ := marked_none hs c h1 h3 ⟨q, 1, 0, 0⟩ (mk_mark hq hq2 (by decide) (by decide) (by decide) (by decide) (by decide) (by decide)) (TFile.mk [] 0 [])
    rw [e, some_bind]
    exact ⟨_, rfl, ht⟩
  | true =>
    simp only [Bool.not_true, cond_false]
    obtain ⟨r, e, hr⟩ := Find_ok s.Files name (by rw [hs.nf]; omega) hn
    rw [e, some_bind]
    rcases hr with ⟨h2, _, i, f, hi, hf, hfn, _⟩ | ⟨rfl, hno⟩
    · have hlt := at_of hf
      have hlt6 : i < 6 := by rw [hs.nf] at hlt; exact hlt
      have hfo := hs.fs f (List.mem_of_getElem? hf)
      rw [h2, hi, wi64_of (by omega) (by omega), show (i : Int) + 1 - 1 = (i : Int) by omega, inR_nat hlt, Int.toNat_natCast, hf]
      simp only [cond_true, some_bind]
      obtain ⟨t, e, ht⟩ := marked_none hs c h1 h3 ⟨q, 0, (i : Int) + 1, f.Ver⟩ (mk_mark hq hq2 (by decide) (by decide) (by omega) (by omega) (hfo.ver.1) (hfo.ver.2)) (TFile.mk [] 0 [])
      rw [e, some_bind]
      exact ⟨_, rfl, ht⟩
    · simp only [cond_false]
      obtain ⟨r, e, hr⟩ := Room_ok s.Files (by rw [hs.nf]; omega)
      rw [e, some_bind]
      rcases hr with ⟨h2, i, f, hi, hf, hfn⟩ | h2
      · have hlt := at_of hf
        have hlt6 : i < 6 := by rw [hs.nf] at hlt; exact hlt
        rw [h2, hi]
        simp only [Bool.not_true, cond_false]
        obtain ⟨t, e, ht⟩ := marked_at hs c h1 h3 ⟨q, 0, (i : Int) + 1, 1⟩ (mk_mark hq hq2 (by decide) (by decide) (by omega) (by omega) (by decide) (by decide)) i hlt6 (TFile.mk name 1 []) (mk_file hm (by decide) (by decide) (by decide))
          (.inr fun j g hg he => absurd he (hno hm j g hg))
        rw [e, some_bind]
        exact ⟨_, rfl, ht⟩
      · rw [h2]
        obtain ⟨t, e, ht⟩ := marked_none hs c h1 h3 ⟨q, 3, 0, 0⟩ (mk_mark hq hq2 (by decide) (by decide) (by decide) (by decide) (by decide) (by decide)) (TFile.mk [] 0 [])
        simp only [Bool.not_false, cond_true]
        rw [e, some_bind]
        exact ⟨_, rfl, ht⟩

theorem Is_ok {B : Int} {s : TState} (hs : Good B s) (f : Int) (h1 : 1 ≤ f) (h2 : f ≤ 7) : ∃ r, ref7_Is s f = some r ∧ (r = true → ∃ (n : Nat) (x : TFile), f = (n : Int) + 1 ∧ n < 6 ∧ s.Files[n]? = some x ∧ x.Name ≠ []) := by
  unfold ref7_Is ref7_Is_k
  rw [decide_eq_true (show f ≥ 1 from h1)]
  by_cases h : f ≤ 6
  · have hlt : (f - 1).toNat < s.Files.length := by rw [hs.nf]; omega
    rw [decide_eq_true (show f ≤ (s.Files.length : Int) by rw [hs.nf]; exact h), wi64_of (by omega) (by omega), inR_of (by omega) (by rw [hs.nf]; omega), List.getElem?_eq_getElem hlt]
    refine ⟨_, rfl, fun hr => ⟨(f - 1).toNat, s.Files[(f - 1).toNat], by omega, by omega, List.getElem?_eq_getElem hlt, fun hn => ?_⟩⟩
    rw [beq_of hn] at hr
    cases hr
  · rw [decide_eq_false (show ¬ f ≤ (s.Files.length : Int) by rw [hs.nf]; exact h)]
    exact ⟨_, rfl, fun hr => by cases hr⟩

theorem Gone_ok {B : Int} {s : TState} (hs : Good B s) (c : Int) (h1 : 1 ≤ c) (h3 : c ≤ 3) (q : Int) (hq : 0 ≤ q) (hq2 : q ≤ B) (f : Int) (hf1 : 1 ≤ f) (hf2 : f ≤ 7) :
    ∃ t, ref7_Gone s c q f = some t ∧ Good B t.1 := by
  unfold ref7_Gone ref7_Gone_k
  obtain ⟨r, e, hr⟩ := Is_ok hs f hf1 hf2
  rw [e, some_bind]
  cases r with
  | false =>
    obtain ⟨t, e, ht⟩ := marked_none hs c h1 h3 ⟨q, 2, 0, 0⟩ (mk_mark hq hq2 (by decide) (by decide) (by decide) (by decide) (by decide) (by decide)) (TFile.mk [] 0 [])
    simp only [Bool.not_false, cond_true]
    rw [e, some_bind]
    exact ⟨_, rfl, ht⟩
  | true =>
    obtain ⟨n, x, rfl, hn, hx, hxn⟩ := hr rfl
    obtain ⟨t, e, ht⟩ := marked_at hs c h1 h3 ⟨q, 0, (n : Int) + 1, 0⟩ (mk_mark hq hq2 (by decide) (by decide) (by omega) (by omega) (by decide) (by decide)) n hn (TFile.mk [] 0 []) (.inl rfl) (.inl rfl)
    simp only [Bool.not_true, cond_false]
    rw [e, some_bind]
    exact ⟨_, rfl, ht⟩
end Go.Proofs.Ythefogjlenmgfaa.N

set_option linter.unusedVariables false
set_option linter.unusedSimpArgs false
namespace Go.Proofs.Ythefogjlenmgfaa.N
open Go

theorem MayWrite_iff {w : TWrite} : ref7_MayWrite w = true → 0 ≤ w.Off ∧ 1 ≤ w.B.length ∧ w.Off + w.B.length ≤ 24 := by
  unfold ref7_MayWrite ref7_MayWrite_k
  intro h
  by_cases h1 : w.Off ≥ 0 <;> by_cases h2 : w.Off < 24 <;> by_cases h3 : (w.B.length : Int) ≥ 1 <;> simp only [h1, h2, h3, decide_true, decide_false, cond_true, cond_false, id] at h <;> try (exact absurd h (by decide))
  rw [wi64_of (by omega) (by omega)] at h
  have := of_decide_eq_true h
  omega

theorem grow_ok (w : TWrite) (i : Nat) (h : ref7_MayWrite w = true) (hi : i < w.B.length) (b : List UInt8) (hb : b.length ≤ 24) :
    ∃ r, ref7_PutWrite_l0 fuel (i : Int) w b = some r ∧ r.length ≤ 24 ∧ w.Off + i < r.length := by
  obtain ⟨h0, h1, h2⟩ := MayWrite_iff h
  unfold ref7_PutWrite_l0
  exact iter_inv (step := ref7_PutWrite_s0 (i : Int) w) (fun k v => v.length + k = 24) (fun r => r.length ≤ 24 ∧ w.Off + i < r.length) (fun k v hI => by
    simp only [ref7_PutWrite_s0, ref7_PutWrite_s0k]
    rw [wi64_of (by omega) (by omega)]
    by_cases hc : (v.length : Int) ≤ w.Off + i
    · rw [decide_eq_true hc, decide_eq_true (show v.length + 1 ≤ lim by rw [lim_eq]; omega)]
      exact ⟨_, rfl, k - 1, by omega, by simp; omega⟩
    · rw [decide_eq_false hc]
      exact ⟨_, rfl, by omega, by omega⟩) (24 - b.length) b fuel (by omega) (fuel_gt (by omega))

theorem PutWrite_ok (w : TWrite) (b : List UInt8) (hb : b.length ≤ 24) : ∃ r, ref7_PutWrite fuel b w = some r ∧ r.length ≤ 24 := by
  unfold ref7_PutWrite ref7_PutWrite_k
  cases h : ref7_MayWrite w with
  | false => exact ⟨b, rfl, hb⟩
  | true =>
    obtain ⟨h0, h1, h2⟩ := MayWrite_iff h
    simp only [Bool.not_true, cond_false]
    unfold ref7_PutWrite_l1
    obtain ⟨x, e, hx⟩ := iter_inv (step := ref7_PutWrite_s1 fuel w) (fun k v => ∃ i : Nat, v.1 = (i : Int) ∧ i + k = w.B.length ∧ v.2.length ≤ 24) (fun r => r.length ≤ 24) (fun k v hI => by
      obtain ⟨v1, v2⟩ := v
      obtain ⟨i, hi, hk, hl⟩ := hI
      simp only at hi hl
      subst hi
      simp only [ref7_PutWrite_s1, ref7_PutWrite_s1k]
      by_cases hlt : i < w.B.length
      · obtain ⟨r, e, g1, g2⟩ := grow_ok w i h hlt v2 hl
        have hlt2 : (w.Off + (i : Int)).toNat < r.length := by omega
        rw [lt_dec hlt, e, some_bind, inR_nat hlt, Int.toNat_natCast, List.getElem?_eq_getElem hlt, some_bind, wi64_of (show -9223372036854775808 ≤ w.Off + (i : Int) by omega) (by omega), inR_of (by omega) (by omega), List.getElem?_eq_getElem hlt2, some_bind, wi64_succ (by omega)]
        exact ⟨_, rfl, k - 1, by omega, i + 1, rfl, by omega, by rw [List.length_set]; exact g1⟩
      · obtain rfl : i = w.B.length := by omega
        rw [ge_dec]
        exact ⟨_, rfl, hl⟩) w.B.length (0, b) fuel ⟨0, rfl, by omega, hb⟩ (fuel_gt (by omega))
    rw [e, some_bind]
    exact ⟨x, rfl, hx⟩

theorem All_ok (l : List TWrite) (hl : l.length ≤ 1000) (b : List UInt8) (hb : b.length ≤ 24) : ∃ r, ref7_All fuel b l = some r ∧ r.length ≤ 24 := by
  unfold ref7_All ref7_All_k ref7_All_l0
  obtain ⟨x, e, hx⟩ := iter_inv (step := ref7_All_s0 fuel l) (fun k v => ∃ i : Nat, v.2 = (i : Int) ∧ i + k = l.length ∧ v.1.length ≤ 24) (fun r => r.length ≤ 24) (fun k v hI => by
    obtain ⟨v1, v2⟩ := v
    obtain ⟨i, hi, hk, hll⟩ := hI
    simp only at hi hll
    subst hi
    simp only [ref7_All_s0, ref7_All_s0k]
    by_cases hlt : i < l.length
    · obtain ⟨r, e, g1⟩ := PutWrite_ok l[i] v1 hll
      rw [lt_dec hlt, inR_nat hlt, Int.toNat_natCast, List.getElem?_eq_getElem hlt, some_bind, e, some_bind, wi64_succ (by omega)]
      exact ⟨_, rfl, k - 1, by omega, i + 1, rfl, by omega, g1⟩
    · obtain rfl : i = l.length := by omega
      rw [ge_dec]
      exact ⟨_, rfl, hll⟩) l.length (b, 0) fuel ⟨0, rfl, by omega, hb⟩ (fuel_gt (by omega))
  rw [e, some_bind]
  exact ⟨x, rfl, hx⟩

theorem flush_loop (c f : Int) (l : List TWrite) (s : TState) (o : TMark) (m : TMark) (ok : Bool) (o1 : TState) (hl : l.length ≤ 1000) : ∃ r, ref7_Flush_l0 fuel c f l s o m ok 0 o1 = some r := by
  unfold ref7_Flush_l0
  obtain ⟨x, e, hx⟩ := iter_inv (step := ref7_Flush_s0 c f l s o m) (fun k v => ∃ i : Nat, v.2.1 = (i : Int) ∧ i + k = l.length) (fun r => True) (fun k v hI => by
    obtain ⟨v1, v2, v3⟩ := v
    obtain ⟨i, hi, hk⟩ := hI
    simp only at hi
    subst hi
    simp only [ref7_Flush_s0, ref7_Flush_s0k]
    by_cases hlt : i < l.length
    · rw [lt_dec hlt, inR_nat hlt, Int.toNat_natCast, List.getElem?_eq_getElem hlt, some_bind, wi64_succ (by omega)]
      cases v1 with
      | true => exact ⟨_, rfl, k - 1, by omega, i + 1, rfl, by omega⟩
      | false => exact ⟨_, rfl, k - 1, by omega, i + 1, rfl, by omega⟩
    · obtain rfl : i = l.length := by omega
      rw [ge_dec]
      exact ⟨_, rfl, trivial⟩) l.length (ok, 0, o1) fuel ⟨0, rfl, by omega⟩ (fuel_gt (by omega))
  exact ⟨x, e⟩

theorem imin_ver {v : Int} (h : 0 ≤ v) (h2 : v ≤ 1073741824) : 1 ≤ imin (wi64 (v + 1)) 1073741824 ∧ imin (wi64 (v + 1)) 1073741824 ≤ 1073741824 := by
  rw [wi64_of (by omega) (by omega)]
  unfold imin
  split <;> omega

theorem Flush_ok {B : Int} {s : TState} (hs : Good B s) (c : Int) (h1 : 1 ≤ c) (h3 : c ≤ 3) (q : Int) (hq : 0 ≤ q) (hq2 : q ≤ B) (f : Int) (hf1 : 1 ≤ f) (hf2 : f ≤ 7) (l : List TWrite) (hl : l.length ≤ 1000) :
    ∃ t, ref7_Flush fuel s c q f l = some t ∧ Good B t.1 := by
  have hno : ∀ e : Int, 0 ≤ e → e ≤ 3 → ∃ t, ((ref7_marked s c (TMark.mk q e 0 0) 0 (TFile.mk [] 0 [])).bind fun r => some (r, (TMark.mk q e 0 0))) = some t ∧ Good B t.1 := by
    intro e e0 e1
    obtain ⟨t, e, ht⟩ := marked_none hs c h1 h3 ⟨q, e, 0, 0⟩ (mk_mark hq hq2 e0 e1 (by decide) (by decide) (by decide) (by decide)) (TFile.mk [] 0 [])
    rw [e, some_bind]
    exact ⟨_, rfl, ht⟩
  have hyes : ∀ (n : Nat) (x : TFile), f = (n : Int) + 1 → n < 6 → s.Files[n]? = some x → x.Name ≠ [] → ∃ t, (bif (inR (wi64 (f - 1)) s.Files.length) then (((s.Files[(wi64 (f - 1)).toNat]?)).bind fun y_5 =>
          ((ref7_All fuel y_5.Body l)).bind fun r_6 =>
          ((ref7_marked s c (TMark.mk q 0 f (imin (wi64 (y_5.Ver + 1)) 1073741824)) f (TFile.mk y_5.Name (imin (wi64 (y_5.Ver + 1)) 1073741824) r_6))).bind fun r_7 =>
          some (r_7, (TMark.mk q 0 f (imin (wi64 (y_5.Ver + 1)) 1073741824))))
        else none) = some t ∧ Good B t.1 := by
    rintro n x rfl hn hx hxn
    have hlt := at_of hx
    have hfo := hs.fs x (List.mem_of_getElem? hx)
    obtain ⟨r, e, hr⟩ := All_ok l hl x.Body hfo.body
    obtain ⟨v0, v1⟩ := imin_ver hfo.ver.1 hfo.ver.2
    rw [wi64_of (by omega) (by omega), show (n : Int) + 1 - 1 = (n : Int) by omega, inR_nat hlt, Int.toNat_natCast, hx]
    simp only [cond_true, some_bind]
    rw [e, some_bind]
    obtain ⟨t, e, ht⟩ := marked_at hs c h1 h3 ⟨q, 0, (n : Int) + 1, imin (wi64 (x.Ver + 1)) 1073741824⟩ (mk_mark hq hq2 (by decide) (by decide) (by omega) (by omega) (by omega) v1) n hn (TFile.mk x.Name (imin (wi64 (x.Ver + 1)) 1073741824) r) (mk_file (hfo.some hxn).1 v0 v1 hr)
      (.inr fun j g hg he => (hs.on j n g x hg hx (by rw [he]; exact hxn) he))
    rw [e, some_bind]
    exact ⟨_, rfl, ht⟩
  unfold ref7_Flush ref7_Flush_k
  obtain ⟨r, e, hr⟩ := Is_ok hs f hf1 hf2
  rw [e, some_bind]
  cases r with
  | false => exact hno 2 (by decide) (by decide)
  | true =>
    obtain ⟨n, x, hn1, hn, hx, hxn⟩ := hr rfl
    obtain ⟨r1, e1⟩ := flush_loop c f l s (TMark.mk 0 0 0 0) (TMark.mk q 0 0 0) (decide ((l.length : Int) ≤ 5)) (TState.mk [] [] 0) hl
    obtain ⟨r2, e2⟩ := flush_loop c f l s (TMark.mk 0 0 0 0) (TMark.mk q 0 0 0) false (TState.mk [] [] 0) hl
    simp only [Bool.not_true, cond_false, e1, e2, some_bind]
    cases decide ((l.length : Int) ≥ 1) with
    | true =>
      cases r1.1 with
      | false => exact hno 1 (by decide) (by decide)
      | true => exact hyes n x hn1 hn hx hxn
    | false =>
      cases r2.1 with
      | false => exact hno 1 (by decide) (by decide)
      | true => exact hyes n x hn1 hn hx hxn

theorem Boot_ok {B : Int} {s : TState} (hs : Good B s) : Good B (ref7_Boot s) := by
  obtain ⟨v0, v1⟩ := imin_ver hs.e0 hs.e1
  exact ⟨hs.nf, hs.nm, by show 0 ≤ imin (wi64 (s.Epoch + 1)) 1073741824; omega, v1, hs.fs, hs.on, hs.ms⟩

theorem Name_ok (p : Ttenancymade_Picks) (hp : pok p) : ∃ r, made_Picks_Name p = some r ∧ r.1.length ≤ 9 ∧ pok r.2 := by
  obtain ⟨r1, e1, h1, h2, h3⟩ := Num_ok p hp 10 (by omega)
  unfold made_Picks_Name made_Picks_Name_k
  rw [e1, some_bind, inR_of h1 (by omega)]
  have hk : r1.1 = 0 ∨ r1.1 = 1 ∨ r1.1 = 2 ∨ r1.1 = 3 ∨ r1.1 = 4 ∨ r1.1 = 5 ∨ r1.1 = 6 ∨ r1.1 = 7 ∨ r1.1 = 8 ∨ r1.1 = 9 := by omega
  rcases hk with hk | hk | hk | hk | hk | hk | hk | hk | hk | hk <;> rw [hk] <;> exact ⟨_, rfl, by simp, h3⟩

theorem mWrite_ok (p : Ttenancymade_Picks) (hp : pok p) : ∃ r, made_Picks_Write p = some r ∧ pok r.2 := by
  obtain ⟨r1, e1, h1, h2, h3⟩ := Num_ok p hp 10 (by omega)
  obtain ⟨r2, e2, h4, h5, h6⟩ := Num_ok r1.2 h3 6 (by omega)
  unfold made_Picks_Write made_Picks_Write_k
  rw [e1, some_bind, e2, some_bind, inR_of h4 (by omega)]
  have hk : r2.1 = 0 ∨ r2.1 = 1 ∨ r2.1 = 2 ∨ r2.1 = 3 ∨ r2.1 = 4 ∨ r2.1 = 5 := by omega
  rcases hk with hk | hk | hk | hk | hk | hk <;> rw [hk] <;> exact ⟨_, rfl, h6⟩

theorem mWrites_ok (p : Ttenancymade_Picks) (hp : pok p) : ∃ r, made_Picks_Writes fuel 5 p = some r ∧ pok r.1 ∧ r.2.length ≤ 5 := by
  obtain ⟨r1, e1, h1, h2, h3⟩ := Num_ok p hp 6 (by omega)
  unfold made_Picks_Writes made_Picks_Writes_k made_Picks_Writes_l0
  rw [wi64_of (by omega) (by omega), show (5 : Int) + 1 = 6 from rfl, e1, some_bind]
  obtain ⟨x, e, hx⟩ := iter_inv (step := made_Picks_Writes_s0) (fun k v => v.1 = (k : Int) ∧ pok v.2.1 ∧ v.2.2.length + k = r1.1.toNat) (fun r => pok r.1 ∧ r.2.length ≤ 5) (fun k v hI => by
    obtain ⟨v1, v2, v3⟩ := v
    obtain ⟨g1, g2, g3⟩ := hI
    simp only at g1 g2 g3
    subst g1
    simp only [made_Picks_Writes_s0, made_Picks_Writes_s0k]
    by_cases hk : (k : Int) > 0
    · obtain ⟨r, e, h⟩ := mWrite_ok v2 g2
      rw [decide_eq_true hk, e, some_bind, decide_eq_true (show v3.length + 1 ≤ lim by rw [lim_eq]; omega), wi64_of (by omega) (by omega)]
      exact ⟨_, rfl, k - 1, by omega, by show (k : Int) - 1 = ((k - 1 : Nat) : Int); omega, h, by simp; omega⟩
    · rw [decide_eq_false hk]
      exact ⟨_, rfl, g2, by show v3.length ≤ 5; omega⟩) r1.1.toNat (r1.1, r1.2, []) fuel ⟨by show r1.1 = ((r1.1.toNat : Nat) : Int); omega, h3, by simp⟩ (fuel_gt (by omega))
  rw [e, some_bind]
  exact ⟨_, rfl, hx.1, hx.2⟩

theorem imax_seq {x : Int} (h : 0 ≤ x) : 1 ≤ imax x 1 ∧ imax x 1 ≤ x + 1 := by
  unfold imax
  split <;> omega

theorem boot_or {B : Int} {s : TState} (hs : Good B s) (b : Bool) : Good B (bif b then ref7_Boot s else s) := by
  cases b with
  | true => exact Boot_ok hs
  | false => exact hs

theorem State_ok (m : Nat) (hm : m ≤ 1000) (p : Ttenancymade_Picks) (hp : pok p) : ∃ r, made_Picks_State fuel (m : Int) p = some r ∧ Good 1073741824 r.1 := by
  unfold made_Picks_State made_Picks_State_k made_Picks_State_l0
  obtain ⟨x, e, hx⟩ := iter_inv (step := made_Picks_State_s0 fuel (m : Int)) (fun k v => ∃ i : Nat, v.1 = (i : Int) ∧ i + k = m ∧ pok v.2.1 ∧ Good (3 * (i : Int) + 1) v.2.2.2) (fun r => Good 1073741824 r.2.2) (fun k v hI => by
    obtain ⟨v1, p, o, s⟩ := v
    obtain ⟨i, hi, hk, hp, hs⟩ := hI
    simp only at hi hp hs
    subst hi
    simp only [made_Picks_State_s0, made_Picks_State_s0k]
    by_cases hlt : i < m
    · rw [lt_dec hlt]
      cases hov : made_Picks_Over p with
      | true => exact ⟨_, rfl, hs.mono (by omega)⟩
      | false =>
        obtain ⟨r1, e1, a1, b1, c1⟩ := Num_ok p hp 3 (by omega)
        obtain ⟨r3, e3, a3, b3, c3⟩ := Num_ok r1.2 c1 3 (by omega)
        obtain ⟨r4, e4, a4, b4, c4⟩ := Num_ok r3.2 c3 6 (by omega)
        have hlt3 : r1.1.toNat < s.Marks.length := by rw [hs.nm]; omega
        have hmk := hs.ms _ (List.getElem_mem hlt3)
        have hs3 := hs.mono (show 3 * (i : Int) + 1 ≤ 3 * ((i + 1 : Nat) : Int) + 1 by omega)
        obtain ⟨q0, q1⟩ := imax_seq (x := s.Marks[r1.1.toNat].Seq + r3.1) (by have := hmk.1; omega)
        have hq := hmk.2.1
        have hq' := hmk.1
        simp only [Bool.not_false, cond_true, e1, some_bind]
        rw [wi64_of (show -9223372036854775808 ≤ 1 + r1.1 by omega) (by omega), show 1 + r1.1 - 1 = r1.1 by omega, wi64_of (show -9223372036854775808 ≤ r1.1 by omega) (by omega), inR_of a1 (by rw [hs.nm]; omega), List.getElem?_eq_getElem hlt3]
        simp only [cond_true, some_bind, e3, e4]
        rw [wi64_of (show -9223372036854775808 ≤ s.Marks[r1.1.toNat].Seq + r3.1 by omega) (by omega)]
        generalize imax (s.Marks[r1.1.toNat].Seq + r3.1) 1 = q at q0 q1 ⊢
        rw [wi64_succ (by omega)]
        have hop : ∃ o2, (((made_Picks_Name r4.2)).bind fun r_5 =>
          ((ref7_Open fuel s (1 + r1.1) q r_5.1)).bind fun r_6 =>
          ((made_Picks_Num 9 r_5.2)).bind fun r_7 =>
          bif (r_7.1 == 0) then some (Sum.inl (((i + 1 : Nat) : Int), r_7.2, (TState.mk [] [] o.Epoch), (ref7_Boot r_6.1)))
          else some (Sum.inl (((i + 1 : Nat) : Int), r_7.2, (TState.mk [] [] o.Epoch), r_6.1))) = some o2 ∧ Sum.elim (fun v' : Int × Ttenancymade_Picks × TState × TState => ∃ k', k' < k ∧ ∃ i : Nat, v'.1 = (i : Int) ∧ i + k' = m ∧ pok v'.2.1 ∧ Good (3 * (i : Int) + 1) v'.2.2.2) (fun r : Ttenancymade_Picks × TState × TState => Good 1073741824 r.2.2) o2 := by
          obtain ⟨r5, e5, a5, c5⟩ := Name_ok r4.2 c4
          obtain ⟨r6, e6, g6⟩ := Open_ok hs3 (1 + r1.1) (by omega) (by omega) q (by omega) (by omega) r5.1 (by omega)
          obtain ⟨r7, e7, a7, b7, c7⟩ := Num_ok r5.2 c5 9 (by omega)
          rw [e5, some_bind, e6, some_bind, e7, some_bind]
          cases (r7.1 == 0) with
          | true => exact ⟨_, rfl, k - 1, by omega, i + 1, rfl, by omega, c7, Boot_ok g6⟩
          | false => exact ⟨_, rfl, k - 1, by omega, i + 1, rfl, by omega, c7, g6⟩
        have hfl : ∃ o2, (((made_Picks_Num 7 r4.2)).bind fun r_14 =>
                ((made_Picks_Writes fuel 5 r_14.2)).bind fun r_15 =>
                ((ref7_Flush fuel s (1 + r1.1) q (wi64 (1 + r_14.1)) r_15.2)).bind fun r_16 =>
                ((made_Picks_Num 9 r_15.1)).bind fun r_17 =>
                bif (r_17.1 == 0) then some (Sum.inl (((i + 1 : Nat) : Int), r_17.2, (TState.mk [] [] o.Epoch), (ref7_Boot r_16.1)))
                else some (Sum.inl (((i + 1 : Nat) : Int), r_17.2, (TState.mk [] [] o.Epoch), r_16.1))) = some o2 ∧ Sum.elim (fun v' : Int × Ttenancymade_Picks × TState × TState => ∃ k', k' < k ∧ ∃ i : Nat, v'.1 = (i : Int) ∧ i + k' = m ∧ pok v'.2.1 ∧ Good (3 * (i : Int) + 1) v'.2.2.2) (fun r : Ttenancymade_Picks × TState × TState => Good 1073741824 r.2.2) o2 := by
          obtain ⟨r5, e5, a5, b5, c5⟩ := Num_ok r4.2 c4 7 (by omega)
          obtain ⟨r8, e8, a8, c8⟩ := mWrites_ok r5.2 c5
          obtain ⟨r6, e6, g6⟩ := Flush_ok hs3 (1 + r1.1) (by omega) (by omega) q (by omega) (by omega) (1 + r5.1) (by omega) (by omega) r8.2 (by omega)
          obtain ⟨r7, e7, a7, b7, c7⟩ := Num_ok r8.1 a8 9 (by omega)
          rw [e5, some_bind, e8, some_bind, wi64_of (show -9223372036854775808 ≤ 1 + r5.1 by omega) (by omega), e6, some_bind, e7, some_bind]
          cases (r7.1 == 0) with
          | true => exact ⟨_, rfl, k - 1, by omega, i + 1, rfl, by omega, c7, Boot_ok g6⟩
          | false => exact ⟨_, rfl, k - 1, by omega, i + 1, rfl, by omega, c7, g6⟩
        have hgo : ∃ o2, (((made_Picks_Num 7 r4.2)).bind fun r_22 =>
                  ((ref7_Gone s (1 + r1.1) q (wi64 (1 + r_22.1)))).bind fun r_23 =>
                  ((made_Picks_Num 9 r_22.2)).bind fun r_24 =>
                  bif (r_24.1 == 0) then some (Sum.inl (((i + 1 : Nat) : Int), r_24.2, (TState.mk [] [] o.Epoch), (ref7_Boot r_23.1)))
                  else some (Sum.inl (((i + 1 : Nat) : Int), r_24.2, (TState.mk [] [] o.Epoch), r_23.1))) = some o2 ∧ Sum.elim (fun v' : Int × Ttenancymade_Picks × TState × TState => ∃ k', k' < k ∧ ∃ i : Nat, v'.1 = (i : Int) ∧ i + k' = m ∧ pok v'.2.1 ∧ Good (3 * (i : Int) + 1) v'.2.2.2) (fun r : Ttenancymade_Picks × TState × TState => Good 1073741824 r.2.2) o2 := by
          obtain ⟨r5, e5, a5, b5, c5⟩ := Num_ok r4.2 c4 7 (by omega)
          obtain ⟨r6, e6, g6⟩ := Gone_ok hs3 (1 + r1.1) (by omega) (by omega) q (by omega) (by omega) (1 + r5.1) (by omega) (by omega)
          obtain ⟨r7, e7, a7, b7, c7⟩ := Num_ok r5.2 c5 9 (by omega)
          rw [e5, some_bind, wi64_of (show -9223372036854775808 ≤ 1 + r5.1 by omega) (by omega), e6, some_bind, e7, some_bind]
          cases (r7.1 == 0) with
          | true => exact ⟨_, rfl, k - 1, by omega, i + 1, rfl, by omega, c7, Boot_ok g6⟩
          | false => exact ⟨_, rfl, k - 1, by omega, i + 1, rfl, by omega, c7, g6⟩
        cases (r4.1 == 0) with
        | true => exact hop
        | false =>
          cases (r4.1 == 1) with
          | true => exact hop
          | false =>
            cases (r4.1 == 2) with
            | true => exact hop
            | false =>
              cases (r4.1 == 3) with
              | true => exact hfl
              | false =>
                cases (r4.1 == 4) with
                | true => exact hfl
                | false => exact hgo
    · obtain rfl : i = m := by omega
      rw [ge_dec]
      exact ⟨_, rfl, hs.mono (by omega)⟩) m (0, p, TState.mk [] [] 0, newState) fuel ⟨0, rfl, by omega, hp, new_ok.mono (by omega)⟩ (fuel_gt (by omega))
  have e' : iter (made_Picks_State_s0 fuel (m : Int)) fuel (0, p, TState.mk [] [] 0, TState.mk [(TFile.mk [] 0 []), (TFile.mk [] 0 []), (TFile.mk [] 0 []), (TFile.mk [] 0 []), (TFile.mk [] 0 []), (TFile.mk [] 0 [])] [(TMark.mk 0 0 0 0), (TMark.mk 0 0 0 0), (TMark.mk 0 0 0 0)] 0) = some x := e
  rw [e', some_bind]
  exact ⟨_, rfl, hx⟩
end Go.Proofs.Ythefogjlenmgfaa.N

set_option linter.unusedVariables false
set_option linter.unusedSimpArgs false
namespace Go.Proofs.Ythefogjlenmgfaa.N
open Go

theorem number_iff (v : Int) : state_number v = true ↔ 0 ≤ v ∧ v ≤ 1073741824 := by
  unfold state_number state_number_k
  by_cases h1 : v ≥ 0 <;> by_cases h2 : v ≤ 1073741824 <;> simp [h1, h2] <;> omega
theorem num_iff (v : Int) : ref7_num v = true ↔ 0 ≤ v ∧ v ≤ 1073741824 := by
  unfold ref7_num ref7_num_k
  by_cases h1 : v ≥ 0 <;> by_cases h2 : v ≤ 1073741824 <;> simp [h1, h2] <;> omega

theorem file_eqb (x y : TFile) : TFile.eqb x y = true ↔ x = y := by
  obtain ⟨a, b, c⟩ := x
  obtain ⟨d, e, f⟩ := y
  simp [TFile.eqb]
theorem mark_eqb (x y : TMark) : TMark.eqb x y = true ↔ x = y := by
  obtain ⟨a, b, c, d⟩ := x
  obtain ⟨e, f, g, h⟩ := y
  simp [TMark.eqb]

theorem mayFile_ok (f : TFile) (hn : f.Name.length < 4294967296) : ∃ b, state_mayFile fuel f = some b ∧ (b = true ↔ fileOk f) := by
  unfold state_mayFile state_mayFile_k
  by_cases h : f.Name = []
  · rw [beq_of h]
    refine ⟨_, rfl, (file_eqb _ _).trans ⟨fun h => .inl h, fun h2 => h2.none h⟩⟩
  · rw [beq_ne h]
    simp only [cond_false, dir_May_ok _ hn, some_bind]
    have hnf : f ≠ noFile := fun e => h (by rw [e]; rfl)
    cases hm : mayName f.Name with
    | false => exact ⟨_, rfl, ⟨fun h => (by cases h), fun h2 => by rw [(h2.some h).1] at hm; cases hm⟩⟩
    | true =>
      by_cases h1 : f.Ver ≥ 1
      · rw [decide_eq_true h1]
        cases hv : state_number f.Ver with
        | false =>
          refine ⟨_, rfl, ⟨fun h => (by cases h), fun h2 => ?_⟩⟩
          rw [(number_iff _).2 h2.ver] at hv
          cases hv
        | true =>
          have hv' := (number_iff _).1 hv
          refine ⟨_, rfl, ⟨fun h => .inr ⟨hm, h1, hv'.2, by have := of_decide_eq_true h; omega⟩, fun h2 => decide_eq_true (by have := h2.body; omega)⟩⟩
      · rw [decide_eq_false h1]
        exact ⟨_, rfl, ⟨fun h => (by cases h), fun h2 => absurd (h2.some h).2 h1⟩⟩

theorem contF_ok (l : List TFile) (o : TFile) (hl : l.length ≤ 1000) : slices_ContainsFunc_File fuel l o = some (l.any fun g => state_May_c1 g o) := by
  unfold slices_ContainsFunc_File slices_ContainsFunc_File_k slices_IndexFunc_File slices_IndexFunc_File_k slices_IndexFunc_File_l0
  obtain ⟨x, e, hx⟩ := iter_inv (step := slices_IndexFunc_File_s0 l (l.length : Int) o) (fun k v => ∃ i : Nat, v = (i : Int) ∧ i + k = l.length ∧ (l.take i).any (fun g => state_May_c1 g o) = false)
    (fun r => Sum.elim (fun j => 0 ≤ j ∧ l.any (fun g => state_May_c1 g o) = true) (fun _ => l.any (fun g => state_May_c1 g o) = false) r) (fun k v hI => by
    obtain ⟨i, rfl, hk, ha⟩ := hI
    simp only [slices_IndexFunc_File_s0, slices_IndexFunc_File_s0k]
    by_cases hlt : i < l.length
    · rw [lt_dec hlt, inR_nat hlt, Int.toNat_natCast, List.getElem?_eq_getElem hlt]
      simp only [cond_true, some_bind]
      cases hc : state_May_c1 l[i] o with
      | true => exact ⟨_, rfl, Int.natCast_nonneg _, List.any_eq_true.2 ⟨_, List.getElem_mem hlt, hc⟩⟩
      | false =>
        simp only [cond_false]
        rw [wi64_succ (by omega)]
        refine ⟨_, rfl, k - 1, by omega, i + 1, rfl, by omega, ?_⟩
        rw [List.take_add_one, List.any_append, ha, List.getElem?_eq_getElem hlt]
        simp [hc]
    · obtain rfl : i = l.length := by omega
      rw [ge_dec]
      rw [List.take_length] at ha
      exact ⟨_, rfl, ha⟩) l.length (0 : Int) fuel ⟨0, rfl, by omega, rfl⟩ (fuel_gt (by omega))
  rw [e, some_bind]
  cases x with
  | inl j =>
    rw [hx.2]
    show some (decide (j ≥ 0)) = some true
    rw [decide_eq_true hx.1]
  | inr j =>
    have : l.any (fun g => state_May_c1 g o) = false := hx
    rw [this]
    rfl

theorem contM_ok (l : List TMark) (hl : l.length ≤ 1000) : slices_ContainsFunc_Mark fuel l = some (l.any fun g => state_May_c2 g) := by
  unfold slices_ContainsFunc_Mark slices_ContainsFunc_Mark_k slices_IndexFunc_Mark slices_IndexFunc_Mark_k slices_IndexFunc_Mark_l0
  obtain ⟨x, e, hx⟩ := iter_inv (step := slices_IndexFunc_Mark_s0 l (l.length : Int)) (fun k v => ∃ i : Nat, v = (i : Int) ∧ i + k = l.length ∧ (l.take i).any (fun g => state_May_c2 g) = false)
    (fun r => Sum.elim (fun j => 0 ≤ j ∧ l.any (fun g => state_May_c2 g) = true) (fun _ => l.any (fun g => state_May_c2 g) = false) r) (fun k v hI => by
    obtain ⟨i, rfl, hk, ha⟩ := hI
    simp only [slices_IndexFunc_Mark_s0, slices_IndexFunc_Mark_s0k]
    by_cases hlt : i < l.length
    · rw [lt_dec hlt, inR_nat hlt, Int.toNat_natCast, List.getElem?_eq_getElem hlt]
      simp only [cond_true, some_bind]
      cases hc : state_May_c2 l[i] with
      | true => exact ⟨_, rfl, Int.natCast_nonneg _, List.any_eq_true.2 ⟨_, List.getElem_mem hlt, hc⟩⟩
      | false =>
        simp only [cond_false]
        rw [wi64_succ (by omega)]
        refine ⟨_, rfl, k - 1, by omega, i + 1, rfl, by omega, ?_⟩
        rw [List.take_add_one, List.any_append, ha, List.getElem?_eq_getElem hlt]
        simp [hc]
    · obtain rfl : i = l.length := by omega
      rw [ge_dec]
      rw [List.take_length] at ha
      exact ⟨_, rfl, ha⟩) l.length (0 : Int) fuel ⟨0, rfl, by omega, rfl⟩ (fuel_gt (by omega))
  rw [e, some_bind]
  cases x with
  | inl j =>
    rw [hx.2]
    show some (decide (j ≥ 0)) = some true
    rw [decide_eq_true hx.1]
  | inr j =>
    have : l.any (fun g => state_May_c2 g) = false := hx
    rw [this]
    rfl

theorem mayMark_iff (m : TMark) : state_mayMark m = true ↔ markOk 1073741824 m := by
  unfold state_mayMark state_mayMark_k markOk
  have h1 := number_iff m.Seq
  have h2 := number_iff m.Ver
  cases ha : state_number m.Seq <;> cases hb : state_number m.Ver <;> rw [ha] at h1 <;> rw [hb] at h2 <;> by_cases hc : m.File ≥ 0 <;> by_cases hd : m.File ≤ 6 <;> by_cases he : m.Err ≥ 0 <;> by_cases hf : m.Err ≤ 3 <;>
    simp [hc, hd, he, hf] at h1 h2 ⊢ <;> omega

/-- No file ahead bears the same name. -/
def ahead (l : List TFile) (i : Nat) : Prop := ∀ (j : Nat) f g, j < i → l[i]? = some f → l[j]? = some g → g.Name = f.Name → f.Name = []
theorem once_iff (l : List TFile) : once l ↔ ∀ i, ahead l i := by
  constructor
  · intro h i j f g hj hf hg he
    refine Classical.byContradiction fun hn => ?_
    have := h i j f g hf hg hn he.symm
    omega
  · intro h i j f g hf hg hn he
    rcases Nat.lt_trichotomy i j with hl | hl | hl
    · exact absurd (h j i g f hl hg hf he) (by rw [← he]; exact hn)
    · exact hl
    · exact absurd (h i j f g hl hf hg he.symm) hn

theorem c1_iff (g f : TFile) : state_May_c1 g f = true ↔ f.Name ≠ [] ∧ g.Name = f.Name := by
  unfold state_May_c1 state_May_c1_k
  by_cases h : f.Name = []
  · rw [beq_of h]; simp [h]
  · rw [beq_ne h]; simp [h]

theorem May_ok (s : TState) (hn : ∀ f ∈ s.Files, f.Name.length < 4294967296) : ∃ b, state_May fuel s = some b ∧ (b = true ↔ Good 1073741824 s) := by
  unfold state_May state_May_k
  by_cases h1 : s.Files.length ≠ 6
  · rw [show ((s.Files.length : Int) != 6) = true by simp; omega]
    exact ⟨_, rfl, ⟨fun h => (by cases h), fun h => absurd h.nf h1⟩⟩
  rw [show ((s.Files.length : Int) != 6) = false by simp; omega]
  have h1 : s.Files.length = 6 := Decidable.of_not_not h1
  by_cases h2 : s.Marks.length ≠ 3
  · rw [show ((s.Marks.length : Int) != 3) = true by simp; omega]
    exact ⟨_, rfl, ⟨fun h => (by cases h), fun h => absurd h.nm h2⟩⟩
  rw [show ((s.Marks.length : Int) != 3) = false by simp; omega]
  have h2 : s.Marks.length = 3 := Decidable.of_not_not h2
  cases he : state_number s.Epoch with
  | false =>
    refine ⟨_, rfl, ⟨fun h => (by cases h), fun h => ?_⟩⟩
    rw [(number_iff _).2 ⟨h.e0, h.e1⟩] at he
    cases he
  | true =>
    have he' := (number_iff _).1 he
    simp only [cond_false, Bool.not_true]
    unfold state_May_l0
    obtain ⟨x, e, hx⟩ := iter_inv (step := state_May_s0 fuel s.Files (s.Files.length : Int) s) (fun k v => ∃ i : Nat, v = (i : Int) ∧ i + k = s.Files.length ∧ ∀ j, j < i → (∀ f, s.Files[j]? = some f → fileOk f) ∧ ahead s.Files j)
      (fun r => Sum.elim (fun _ => ¬ Good 1073741824 s) (fun _ => (∀ f ∈ s.Files, fileOk f) ∧ once s.Files) r) (fun k v hI => by
      obtain ⟨i, rfl, hk, ha⟩ := hI
      simp only [state_May_s0, state_May_s0k]
      by_cases hlt : i < s.Files.length
      · rw [lt_dec hlt, inR_nat hlt, Int.toNat_natCast, List.getElem?_eq_getElem hlt]
        simp only [cond_true, some_bind]
        obtain ⟨b, eb, hb⟩ := mayFile_ok s.Files[i] (hn _ (List.getElem_mem hlt))
        rw [eb, some_bind]
        cases b with
        | false => exact ⟨_, rfl, fun hg => by have := hb.2 (hg.fs _ (List.getElem_mem hlt)); cases this⟩
        | true =>
          simp only [Bool.not_true, cond_false]
          rw [cutOk_of (by omega) (by omega) (by omega), cut_front, contF_ok _ _ (by rw [List.length_take]; omega)]
          simp only [cond_true, some_bind]
          cases hc : (s.Files.take i).any (fun g => state_May_c1 g s.Files[i]) with
          | true =>
            refine ⟨_, rfl, fun hg => ?_⟩
            obtain ⟨g, hg1, hg2⟩ := List.any_eq_true.1 hc
            obtain ⟨j, hj1, hj2⟩ := List.mem_iff_getElem?.1 hg1 |>.elim fun j hj => (⟨j, by have := at_of hj; rw [List.length_take] at this; omega, hj⟩ : ∃ j, j < i ∧ (s.Files.take i)[j]? = some g)
            rw [List.getElem?_take_of_lt hj1] at hj2
            obtain ⟨hn1, hn2⟩ := (c1_iff _ _).1 hg2
            exact hn1 ((once_iff _).1 hg.on i j _ g hj1 (List.getElem?_eq_getElem hlt) hj2 hn2)
          | false =>
            simp only [cond_false]
            rw [wi64_succ (by omega)]
            refine ⟨_, rfl, k - 1, by omega, i + 1, rfl, by omega, fun j hj => ?_⟩
            by_cases hji : j = i
            · subst hji
              refine ⟨fun f hf => ?_, fun a f g ha hf hg he => ?_⟩
              · rw [List.getElem?_eq_getElem hlt] at hf
                cases hf
                exact hb.1 rfl
              · rw [List.getElem?_eq_getElem hlt] at hf
                cases hf
                refine Classical.byContradiction fun hne => ?_
                have : (s.Files.take j).any (fun g => state_May_c1 g s.Files[j]) = true := List.any_eq_true.2 ⟨g, List.mem_iff_getElem?.2 ⟨a, by rw [List.getElem?_take_of_lt ha]; exact hg⟩, (c1_iff _ _).2 ⟨hne, he⟩⟩
                rw [hc] at this
                cases this
            · exact ha j (by omega)
      · obtain rfl : i = s.Files.length := by omega
        rw [ge_dec]
        refine ⟨_, rfl, fun f hf => ?_, (once_iff _).2 fun j => ?_⟩
        · obtain ⟨j, hj⟩ := List.mem_iff_getElem?.1 hf
          exact (ha j (at_of hj)).1 f hj
        · by_cases hj : j < s.Files.length
          · exact (ha j hj).2
          · intro a f g _ hf
            exact absurd (at_of hf) hj) s.Files.length (0 : Int) fuel ⟨0, rfl, by omega, fun j h => by omega⟩ (fuel_gt (by omega))
    rw [e, some_bind]
    cases x with
    | inl f => exact ⟨false, rfl, ⟨fun h => (by cases h), fun h => absurd h hx⟩⟩
    | inr f =>
      simp only [alt_inr]
      rw [contM_ok s.Marks (by omega), some_bind]
      refine ⟨_, rfl, ?_⟩
      have hm : (!(s.Marks.any fun g => state_May_c2 g)) = true ↔ ∀ m ∈ s.Marks, markOk 1073741824 m := by
        rw [Bool.not_eq_true', List.any_eq_false]
        refine forall_congr' fun m => forall_congr' fun _ => ?_
        rw [← mayMark_iff]
        unfold state_May_c2 state_May_c2_k
        cases state_mayMark m <;> simp
      rw [hm]
      exact ⟨fun h => ⟨h1, h2, he'.1, he'.2, hx.1, hx.2, h⟩, fun h => h.ms⟩
end Go.Proofs.Ythefogjlenmgfaa.N
