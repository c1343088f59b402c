/- Plain words for this seat (30). Plain words for this seat (31). Plain words for this seat (32). Plain words for this seat (33). Plain words for this seat (34). Plain words for this seat (35). Plain words for this seat (36). -/
import Derived.Test.YthabbcjjecpbmaaGreatSeat4
set_option linter.unusedVariables false
set_option linter.unusedSimpArgs false
namespace Go.Proofs.YthabbcjjecpbmaaGreat.N
open Go
def Okt {α : Type} (t : D.Tree α) (Q : α → Prop) : Prop := ∃ r, t.get = some r ∧ Q r
theorem okt_ret {α : Type} {Q : α → Prop} {a : α} (h : Q a) : Okt (.ret a) Q := ⟨a, rfl, h⟩
theorem okt_ite {α : Type} {Q : α → Prop} {c : Bool} {t e : D.Tree α} (h1 : c = true → Okt t Q) (h2 : c = false → Okt e Q) : Okt (.ite c t e) Q := by
 cases c
 ·obtain ⟨r, a, b⟩ := h2 rfl; exact ⟨r, a, b⟩
 ·obtain ⟨r, a, b⟩ := h1 rfl; exact ⟨r, a, b⟩
theorem okt_t {α : Type} {Q : α → Prop} {c : Bool} {t e : D.Tree α} (hc : c = true) (h : Okt t Q) : Okt (.ite c t e) Q := by subst hc; obtain ⟨r, a, b⟩ := h; exact ⟨r, a, b⟩
theorem okt_f {α : Type} {Q : α → Prop} {c : Bool} {t e : D.Tree α} (hc : c = false) (h : Okt e Q) : Okt (.ite c t e) Q := by subst hc; obtain ⟨r, a, b⟩ := h; exact ⟨r, a, b⟩
theorem okt_opt {α β : Type} {Q : α → Prop} {o : Option β} {g : β → D.Tree α} {x : β} (h : o = some x) (h2 : Okt (g x) Q) : Okt (.opt o g) Q := by
 subst h; obtain ⟨r, a, b⟩ := h2; exact ⟨r, a, b⟩
theorem okt_optE {α β : Type} {P : β → Prop} {Q : α → Prop} {o : Option β} {g : β → D.Tree α} (h : ∃ x, o = some x ∧ P x) (h2 : ∀ x, P x → Okt (g x) Q) : Okt (.opt o g) Q := by
 obtain ⟨x, h, p⟩ := h; exact okt_opt h (h2 x p)
theorem MayW_iff {w : TWrite} : file_May w = true → 0 ≤ w.Off ∧ 1 ≤ w.B.length ∧ w.Off + w.B.length ≤ 24 := by
 intro h; have := file_May_iff.1 h; omega
def putW (b : List UInt8) (w : TWrite) : List UInt8 :=
 if file_May w = true then ((b ++ List.replicate (w.Off.toNat - b.length) 0).take w.Off.toNat ++ w.B) ++ b.drop (w.Off.toNat + w.B.length) else b
def allW (b : List UInt8) (l : List TWrite) : List UInt8 := l.foldl putW b
theorem putW_len (b : List UInt8) (w : TWrite) (hb : b.length ≤ 24) : (putW b w).length ≤ 24 := by
 unfold putW
 split
 ·rename_i h
  obtain ⟨h0, h1, h2⟩ := MayW_iff h
  simp only [List.length_append, List.length_take, List.length_replicate, List.length_drop]
  omega
 ·exact hb
theorem allW_len : ∀ (l : List TWrite) (b : List UInt8), b.length ≤ 24 → (allW b l).length ≤ 24
 | [], b, hb => hb
 | w :: l, b, hb => allW_len l (putW b w) (putW_len b w hb)
theorem file_Put_ok (b : List UInt8) (w : TWrite) (hb : b.length ≤ 24) : file_Put b w = some (putW b w) := by
 unfold file_Put file_Put_t putW
 cases h : file_May w with
 | false => rfl
 | true =>
  obtain ⟨h0, h1, h2⟩ := MayW_iff h
  simp only [get_ite, get_ret, get_fail, Bool.not_true, cond_false, if_true]
  obtain ⟨n, hn⟩ : ∃ n : Nat, w.Off = (n : Int) := ⟨w.Off.toNat, by omega⟩
  rw [hn, wi64_of (show -9223372036854775808 ≤ (n : Int) - (b.length : Int) by omega) (by omega), wi64_of (show -9223372036854775808 ≤ (n : Int) + (w.B.length : Int) by omega) (by omega), Int.toNat_natCast]
  have rep : ∀ m : Int, m.toNat = n - b.length → repL ([0] : List UInt8) m = List.replicate (n - b.length) 0 := fun m hm => by
   unfold repL; rw [hm]; simp
  by_cases hc : (n : Int) - (b.length : Int) > 0
  ·have e := rep ((n : Int) - (b.length : Int)) (by omega)
   rw [decide_eq_true hc, cond_true, e]
   have hl : (b ++ List.replicate (n - b.length) (0 : UInt8)).length = n := by simp; omega
   rw [show repOk ([0] : List UInt8) ((n : Int) - (b.length : Int)) = true by unfold repOk; simp [lim_eq]; omega, cond_true]
   have hmin : imin ((n : Int) + (w.B.length : Int)) ((b ++ List.replicate (n - b.length) (0 : UInt8)).length : Int) = (n : Int) := by
    rw [hl]; unfold imin; rw [if_pos (by omega)]
   rw [hmin, hl, cutOk_of (by omega) (by omega) (by omega), cond_true, cutOk_of (by omega) (by omega) (Int.le_refl _)]
   rw [cut_front]
   have hz : cutL (b ++ List.replicate (n - b.length) (0 : UInt8)) (n : Int) (n : Int) = [] := by
    unfold cutL; apply List.drop_eq_nil_of_le; simp; omega
   rw [hz]
   have hd : b.drop (n + w.B.length) = [] := List.drop_eq_nil_of_le (by omega)
   rw [hd]
   simp only [List.length_append, List.length_replicate, List.length_take, List.length_nil]
   rw [decide_eq_true (show b.length + (n - b.length) ≤ lim by rw [lim_eq]; omega), cond_true]
   rw [decide_eq_true (show min n (b.length + (n - b.length)) + w.B.length ≤ lim by rw [lim_eq]; omega), cond_true, cond_true]
   rw [decide_eq_true (show min n (b.length + (n - b.length)) + w.B.length + 0 ≤ lim by rw [lim_eq]; omega), cond_true]
  ·rw [decide_eq_false hc, cond_false]
   have e : n - b.length = 0 := by omega
   rw [e, List.replicate_zero, List.append_nil]
   rw [cutOk_of (by omega) (by omega) (by omega), cond_true, cut_front]
   have hcut : cutL b (imin ((n : Int) + (w.B.length : Int)) (b.length : Int)) (b.length : Int) = b.drop (n + w.B.length) := by
    unfold imin
    split
    ·rw [cut_back]; rw [List.drop_eq_nil_of_le (Nat.le_refl _), List.drop_eq_nil_of_le (by omega)]
    ·have : (n : Int) + (w.B.length : Int) = ((n + w.B.length : Nat) : Int) := by omega
     rw [this, cut_back]
   have h3 : 0 ≤ imin ((n : Int) + (w.B.length : Int)) (b.length : Int) ∧ imin ((n : Int) + (w.B.length : Int)) (b.length : Int) ≤ (b.length : Int) := by
    unfold imin; split <;> omega
   rw [cutOk_of h3.1 h3.2 (by omega), cond_true, hcut]
   simp only [List.length_append, List.length_take, List.length_drop]
   rw [decide_eq_true (show min n b.length + w.B.length ≤ lim by rw [lim_eq]; omega), cond_true]
   rw [decide_eq_true (show min n b.length + w.B.length + (b.length - (n + w.B.length)) ≤ lim by rw [lim_eq]; omega), cond_true]
theorem file_All_ok (l : List TWrite) (b : List UInt8) (hl : l.length ≤ 1000) (hb : b.length ≤ 24) : file_All fuel b l = some (allW b l) := by
 unfold file_All file_All_t file_All_l0
 simp only [get_opt, get_ret]
 obtain ⟨x, e, hx⟩ := iter_inv (step := file_All_s0 l (l.length : Int)) (fun k v => ∃ i : Nat, v.2 = (i : Int) ∧ i + k = l.length ∧ v.1.length ≤ 24 ∧ allW v.1 (l.drop i) = allW b l) (fun r => r = allW b l) (fun k v hI => by
  obtain ⟨v1, v2⟩ := v
  obtain ⟨i, hi, hk, hlen, he⟩ := hI
  simp only at hi hlen he
  subst hi
  simp only [file_All_s0, file_All_s0t, get_ite, get_opt, get_ret, get_fail]
  by_cases hlt : i < l.length
  ·rw [lt_dec hlt, inR_nat hlt, Int.toNat_natCast, List.getElem?_eq_getElem hlt, some_bind, file_Put_ok v1 _ hlen, some_bind, wi64_succ (by omega)]
   refine ⟨_, rfl, k - 1, by omega, i + 1, rfl, by omega, putW_len _ _ hlen, ?_⟩
   rw [← he, List.drop_eq_getElem_cons hlt]; rfl
  ·obtain rfl : i = l.length := by omega
   rw [ge_dec]
   refine ⟨_, rfl, ?_⟩
   rw [← he, List.drop_length]; rfl) l.length (b, 0) fuel ⟨0, rfl, by omega, hb, rfl⟩ (fuel_gt (by omega))
 rw [e, some_bind, hx]
def putN (b : List UInt8) (w : TWrite) (i : Nat) : List UInt8 := if i = 0 then b else ((b ++ List.replicate (w.Off.toNat - b.length) 0).take w.Off.toNat ++ w.B.take i) ++ b.drop (w.Off.toNat + i)
theorem putN_at (b : List UInt8) (w : TWrite) (i : Nat) (hi : i ≤ w.B.length) (j : Nat) :
  (putN b w i)[j]? = if w.Off.toNat ≤ j ∧ j < w.Off.toNat + i then w.B[j - w.Off.toNat]? else if j < b.length then b[j]? else if j < w.Off.toNat + i ∧ i ≠ 0 then some 0 else none := by
 unfold putN
 by_cases h0 : i = 0
 ·subst h0
  rw [if_pos rfl, if_neg (by omega)]
  split
  ·rfl
  ·rw [if_neg (by omega)]; exact List.getElem?_eq_none (by omega)
 ·rw [if_neg h0]
  have hl1 : ((b ++ List.replicate (w.Off.toNat - b.length) (0 : UInt8)).take w.Off.toNat).length = w.Off.toNat := by simp; omega
  by_cases h1 : j < w.Off.toNat
  ·rw [List.append_assoc, List.getElem?_append_left (by omega), List.getElem?_take_of_lt h1, if_neg (by omega)]
   by_cases h2 : j < b.length
   ·rw [List.getElem?_append_left h2, if_pos h2]
   ·rw [List.getElem?_append_right (by omega), if_neg h2, if_pos (by omega)]
    rw [List.getElem?_replicate, if_pos (by omega)]
  ·have hl2 : (w.B.take i).length = i := by simp; omega
   by_cases h2 : j < w.Off.toNat + i
   ·rw [List.append_assoc, List.getElem?_append_right (by omega), hl1, List.getElem?_append_left (by omega), if_pos ⟨by omega, h2⟩, List.getElem?_take_of_lt (by omega)]
   ·rw [List.getElem?_append_right (by simp only [List.length_append]; omega), if_neg (by omega)]
    simp only [List.length_append, hl1, hl2]
    rw [List.getElem?_drop, show w.Off.toNat + i + (j - (w.Off.toNat + i)) = j by omega]
    split
    ·rfl
    ·rw [if_neg (by omega)]; exact List.getElem?_eq_none (by omega)
theorem grow_at (w : TWrite) (i : Nat) (h0 : 0 ≤ w.Off) (h2 : w.Off + (i : Int) < 24) (b : List UInt8) (hb : b.length ≤ 24) :
  ref7_PutWrite_l0 fuel (i : Int) w b = some (b ++ List.replicate (w.Off.toNat + i + 1 - b.length) 0) := by
 unfold ref7_PutWrite_l0
 obtain ⟨x, e, hx⟩ := iter_inv (step := ref7_PutWrite_s0 (i : Int) w) (fun k v => v.length + k = 24 ∧ v ++ List.replicate (w.Off.toNat + i + 1 - v.length) 0 = b ++ List.replicate (w.Off.toNat + i + 1 - b.length) 0) (fun r => r = b ++ List.replicate (w.Off.toNat + i + 1 - b.length) 0) (fun k v hI => by
  simp only [ref7_PutWrite_s0, ref7_PutWrite_s0t, get_ite, get_opt, get_ret, get_fail]
  rw [wi64_of (by omega) (by omega)]
  by_cases hc : (v.length : Int) ≤ w.Off + i
  ·rw [decide_eq_true hc, decide_eq_true (show v.length + 1 ≤ lim by rw [lim_eq]; omega)]
   refine ⟨_, rfl, k - 1, by omega, by simp; omega, ?_⟩
   rw [← hI.2, List.append_assoc]
   congr 1
   rw [show w.Off.toNat + i + 1 - v.length = (w.Off.toNat + i + 1 - (v ++ [0]).length) + 1 by simp; omega, List.replicate_succ]
   rfl
  ·rw [decide_eq_false hc]
   refine ⟨_, rfl, ?_⟩
   rw [← hI.2, show w.Off.toNat + i + 1 - v.length = 0 by omega]; simp) (24 - b.length) b fuel ⟨by omega, rfl⟩ (fuel_gt (by omega))
 rw [e, hx]
theorem putN_len (b : List UInt8) (w : TWrite) (i : Nat) (hi : i ≤ w.B.length) (h : w.Off.toNat + w.B.length ≤ 24) (hb : b.length ≤ 24) : (putN b w i).length ≤ 24 := by
 unfold putN
 split
 ·exact hb
 ·simp only [List.length_append, List.length_take, List.length_replicate, List.length_drop]; omega
theorem ref7_PutWrite_ok (b : List UInt8) (w : TWrite) (hb : b.length ≤ 24) : ref7_PutWrite fuel b w = some (putW b w) := by
 unfold ref7_PutWrite ref7_PutWrite_t putW
 simp only [get_ite, get_opt, get_ret, get_fail]
 rw [ref7_MayWrite_eq]
 cases h : file_May w with
 | false => rfl
 | true =>
  obtain ⟨h0, h1, h2⟩ := MayW_iff h
  simp only [Bool.not_true, cond_false, if_true]
  unfold ref7_PutWrite_l1
  obtain ⟨x, e, hx⟩ := iter_inv (step := ref7_PutWrite_s1 fuel w) (fun k v => ∃ i : Nat, v.1 = (i : Int) ∧ i + k = w.B.length ∧ v.2 = putN b w i) (fun r => r = putN b w w.B.length) (fun k v hI => by
   obtain ⟨v1, v2⟩ := v
   obtain ⟨i, hi, hk, hl⟩ := hI
   simp only at hi hl
   subst hi hl
   simp only [ref7_PutWrite_s1, ref7_PutWrite_s1t, get_ite, get_opt, get_ret, get_fail]
   by_cases hlt : i < w.B.length
   ·have hpl := putN_len b w i (by omega) (by omega) hb
    rw [lt_dec hlt, grow_at w i h0 (by omega) _ hpl, some_bind, inR_nat hlt, Int.toNat_natCast, List.getElem?_eq_getElem hlt, some_bind, wi64_of (show -9223372036854775808 ≤ w.Off + (i : Int) by omega) (by omega)]
    have hidx : (w.Off + (i : Int)).toNat = w.Off.toNat + i := by omega
    have hlen : w.Off.toNat + i < (putN b w i ++ List.replicate (w.Off.toNat + i + 1 - (putN b w i).length) (0 : UInt8)).length := by simp; omega
    rw [inR_of (by omega) (by omega), hidx]
    simp only [cond_true]
    rw [List.getElem?_eq_getElem hlen, wi64_succ (by omega)]
    refine ⟨_, rfl, k - 1, by omega, i + 1, rfl, by omega, ?_⟩
    apply List.ext_getElem?
    intro j
    rw [List.getElem?_set, putN_at b w (i + 1) (by omega)]
    by_cases hj : w.Off.toNat + i = j
    ·rw [if_pos hj, if_pos (show w.Off.toNat + i < _ from hlen), if_pos (show w.Off.toNat ≤ j ∧ j < w.Off.toNat + (i + 1) by omega)]
     rw [show j - w.Off.toNat = i by omega, List.getElem?_eq_getElem hlt]
    ·rw [if_neg hj]
     by_cases hj2 : j < (putN b w i).length
     ·rw [List.getElem?_append_left hj2, putN_at b w i (by omega)]
      by_cases c1 : w.Off.toNat ≤ j ∧ j < w.Off.toNat + i
      ·rw [if_pos c1, if_pos (show w.Off.toNat ≤ j ∧ j < w.Off.toNat + (i + 1) by omega)]
      ·rw [if_neg c1, if_neg (show ¬ (w.Off.toNat ≤ j ∧ j < w.Off.toNat + (i + 1)) by omega)]
       by_cases c2 : j < b.length
       ·rw [if_pos c2, if_pos c2]
       ·rw [if_neg c2, if_neg c2]
        by_cases c3 : j < w.Off.toNat + i ∧ i ≠ 0
        ·rw [if_pos c3, if_pos (show j < w.Off.toNat + (i + 1) ∧ i + 1 ≠ 0 by omega)]
        ·exfalso
         have := putN_at b w i (by omega) j
         rw [if_neg c1, if_neg c2, if_neg c3, List.getElem?_eq_getElem hj2] at this
         cases this
     ·rw [List.getElem?_append_right (by omega), List.getElem?_replicate]
      have hn := putN_at b w i (by omega) j
      rw [List.getElem?_eq_none (by omega)] at hn
      have c2 : ¬ j < b.length := by
       intro c2
       by_cases c1 : w.Off.toNat ≤ j ∧ j < w.Off.toNat + i
       ·rw [if_pos c1, List.getElem?_eq_getElem (by omega)] at hn; cases hn
       ·rw [if_neg c1, if_pos c2, List.getElem?_eq_getElem c2] at hn; cases hn
      have c1 : ¬ (w.Off.toNat ≤ j ∧ j < w.Off.toNat + i) := by
       intro c1
       rw [if_pos c1, List.getElem?_eq_getElem (by omega)] at hn; cases hn
      by_cases c4 : j < w.Off.toNat + i + 1
      ·rw [if_pos (show j - (putN b w i).length < w.Off.toNat + i + 1 - (putN b w i).length by omega), if_neg (show ¬ (w.Off.toNat ≤ j ∧ j < w.Off.toNat + (i + 1)) by omega), if_neg c2, if_pos (show j < w.Off.toNat + (i + 1) ∧ i + 1 ≠ 0 by omega)]
      ·rw [if_neg (show ¬ j - (putN b w i).length < w.Off.toNat + i + 1 - (putN b w i).length by omega), if_neg (show ¬ (w.Off.toNat ≤ j ∧ j < w.Off.toNat + (i + 1)) by omega), if_neg c2, if_neg (show ¬ (j < w.Off.toNat + (i + 1) ∧ i + 1 ≠ 0) by omega)]
   ·obtain rfl : i = w.B.length := by omega
    rw [ge_dec]
    exact ⟨_, rfl, rfl⟩) w.B.length (0, b) fuel ⟨0, rfl, by omega, by unfold putN; rw [if_pos rfl]⟩ (fuel_gt (by omega))
  rw [e, some_bind, hx]
  unfold putN
  rw [if_neg (by omega), List.take_length]
theorem ref7_All_is (l : List TWrite) (b : List UInt8) (hl : l.length ≤ 1000) (hb : b.length ≤ 24) : ref7_All fuel b l = some (allW b l) := by
 unfold ref7_All ref7_All_t ref7_All_l0
 simp only [get_opt, get_ret]
 obtain ⟨x, e, hx⟩ := iter_inv (step := ref7_All_s0 fuel l) (fun k v => ∃ i : Nat, v.2 = (i : Int) ∧ i + k = l.length ∧ v.1.length ≤ 24 ∧ allW v.1 (l.drop i) = allW b l) (fun r => r = allW b l) (fun k v hI => by
  obtain ⟨v1, v2⟩ := v
  obtain ⟨i, hi, hk, hlen, he⟩ := hI
  simp only at hi hlen he
  subst hi
  simp only [ref7_All_s0, ref7_All_s0t, get_ite, get_opt, get_ret, get_fail]
  by_cases hlt : i < l.length
  ·rw [lt_dec hlt, inR_nat hlt, Int.toNat_natCast, List.getElem?_eq_getElem hlt, some_bind, ref7_PutWrite_ok v1 _ hlen, some_bind, wi64_succ (by omega)]
   refine ⟨_, rfl, k - 1, by omega, i + 1, rfl, by omega, putW_len _ _ hlen, ?_⟩
   rw [← he, List.drop_eq_getElem_cons hlt]; rfl
  ·obtain rfl : i = l.length := by omega
   rw [ge_dec]
   refine ⟨_, rfl, ?_⟩
   rw [← he, List.drop_length]; rfl) l.length (b, 0) fuel ⟨0, rfl, by omega, hb, rfl⟩ (fuel_gt (by omega))
 rw [e, some_bind, hx]
open Go
def mapTo {α : Type} (f : α → α) (xs : List α) (i : Nat) : List α := (xs.take i).map f ++ xs.drop i
theorem mapTo_len {α : Type} (f : α → α) (xs : List α) (i : Nat) : (mapTo f xs i).length = xs.length := by
 unfold mapTo; simp; omega
theorem mapTo_zero {α : Type} (f : α → α) (xs : List α) : mapTo f xs 0 = xs := rfl
theorem mapTo_end {α : Type} (f : α → α) (xs : List α) : mapTo f xs xs.length = xs.map f := by unfold mapTo; simp
theorem mapTo_at {α : Type} (f : α → α) (xs : List α) {i : Nat} {a : α} (h : xs[i]? = some a) : (mapTo f xs i)[i]? = some a := by
 have hi := at_of h
 unfold mapTo
 rw [List.getElem?_append_right (by simp; omega)]
 simp only [List.length_map, List.length_take, List.getElem?_drop]
 rw [show i + (i - min i xs.length) = i by omega, h]
theorem mapTo_set {α : Type} (f : α → α) (xs : List α) {i : Nat} {a : α} (h : xs[i]? = some a) : (mapTo f xs i).set i (f a) = mapTo f xs (i + 1) := by
 have hi := at_of h
 have ha : xs[i] = a := (List.getElem?_eq_some_iff.1 h).2
 unfold mapTo
 rw [List.set_append_right _ _ (by simp; omega)]
 simp only [List.length_map, List.length_take]
 rw [show i - min i xs.length = 0 by omega, List.drop_eq_getElem_cons hi, List.set_cons_zero, List.take_succ_eq_append_getElem hi, List.map_append, ha]
 simp
def noCache : TCache := ⟨0, 0, 0, [], [], 0, false, false⟩
def noOut : TOut := ⟨false, ⟨0, 0, 0, 0, [], 0, 0, []⟩, 0, 0⟩
@[reducible] def Out3 : Type := TClient × TAns × List TAsk
def fileAt (c : TClient) (n : Int) : TCache := (c.Files[(n - 1).toNat]?).getD noCache
def setF (c : TClient) (n : Int) (x : TCache) : TClient := { c with Files := c.Files.set (n - 1).toNat x }
def stamp (c : TClient) (a : TAsk) : TAsk := { a with From := c.ID, Epoch := c.Epoch, Seq := wi64 (c.Seq + 1) }
def askS (c : TClient) (a : TAsk) : Out3 := ({ c with Seq := wi64 (c.Seq + 1), Out := ⟨true, stamp c a, c.Now, c.Now⟩, Asks := wi64 (c.Asks + 1) }, ⟨5, 0, []⟩, [stamp c a])
def sayS (c : TClient) (e : Int) : Out3 := (c, ⟨e, 0, []⟩, [])
def givesS (c : TClient) (n : Int) : Out3 := (setF (askS c ⟨4, 0, 0, 0, [], n, 0, (fileAt c n).Dirty⟩).1 n { noCache with Lost := (fileAt c n).Lost }, (askS c ⟨4, 0, 0, 0, [], n, 0, (fileAt c n).Dirty⟩).2)
def flushS (c : TClient) (n : Int) : Out3 := askS (setF c n { fileAt c n with Sent := ((fileAt c n).Dirty.length : Int) }) ⟨3, 0, 0, 0, [], n, 0, (fileAt c n).Dirty⟩
def lapseS (c : TClient) : TClient := { c with Files := c.Files.map fun f => cache_Lapse f c.Now }
def findS (l : List (List UInt8)) (s : List UInt8) : Option Nat := l.findIdx? (s == ·)
def opensS (c : TClient) (s : List UInt8) : Out3 :=
 if mayName s = false then sayS c 1 else
 match findS c.Names s with
 | some i => (c, ⟨0, (i : Int) + 1, []⟩, [])
 | none => if c.Out.Is = true then sayS c 4 else askS c ⟨1, 0, 0, 0, s, 0, 0, []⟩
def readsS (c : TClient) (n : Int) : Out3 :=
 if cache_Valid (fileAt c n) c.Now ≠ 0 then ({ c with Hits := wi64 (c.Hits + 1) }, ⟨0, 0, allW (fileAt c n).Body (fileAt c n).Dirty⟩, [])
 else if c.Out.Is = true then sayS c 4 else askS c ⟨2, 0, 0, 0, [], n, 1, []⟩
def bufOk (x : TCache) (w : TWrite) : Bool := decide (x.Dirty.length < 5) && (x.Mode == 2) && file_May w
def writesS (c : TClient) (n : Int) (w : TWrite) : Out3 :=
 if cache_Valid (fileAt c n) c.Now = 2 ∧ (fileAt c n).Called = false ∧ bufOk (fileAt c n) w = true then
  ({ setF c n { fileAt c n with Dirty := (fileAt c n).Dirty ++ [w] } with Hits := wi64 (c.Hits + 1) }, ⟨0, 0, []⟩, [])
 else if c.Out.Is = true then sayS c 4
 else if cache_Valid (fileAt c n) c.Now ≠ 2 then askS c ⟨2, 0, 0, 0, [], n, 2, []⟩
 else if (fileAt c n).Called = true then givesS c n
 else flushS c n
def syncsS (c : TClient) (n : Int) : Out3 :=
 if c.Out.Is = true ∧ c.Out.Ask.Kind = 4 ∧ c.Out.Ask.File = n ∧ c.Out.Ask.Writes ≠ [] then sayS c 4
 else if (fileAt c n).Dirty = [] then sayS c 0
 else if c.Out.Is = true then sayS c 4 else flushS c n
def dropsS (c : TClient) (n : Int) : Out3 :=
 if (fileAt c n).Mode = 0 then sayS c 0 else if c.Out.Is = true then sayS c 4 else givesS c n
def endsS (c : TClient) (n : Int) : Out3 :=
 if c.Out.Is = true then sayS c 4
 else if (fileAt c n).Dirty ≠ [] then sayS c 4
 else askS (setF c n (cache_Reset (fileAt c n))) ⟨5, 0, 0, 0, [], n, 0, []⟩
def stepS (c : TClient) (s : TStep) : Out3 :=
 if s.Kind < 3 ∨ 8 < s.Kind then sayS c 1
 else if s.Kind = 3 then opensS c s.Text
 else if s.File < 1 ∨ 6 < s.File then sayS c 1
 else if s.Kind = 5 ∧ file_May ⟨s.Off, s.Text⟩ = false then sayS c 1
 else if (fileAt c s.File).Lost = true ∧ s.Kind ≠ 8 then sayS (setF c s.File { fileAt c s.File with Lost := false }) 6
 else if s.Kind = 4 then readsS c s.File
 else if s.Kind = 5 then writesS c s.File ⟨s.Off, s.Text⟩
 else if s.Kind = 6 then syncsS c s.File
 else if s.Kind = 7 then dropsS c s.File
 else endsS c s.File
def doS (c : TClient) (s : TStep) : Out3 := stepS (lapseS c) s
structure Shape (c : TClient) : Prop where
 files : c.Files.length = 6
 names : c.Names.length = 6
 out : c.Out.Is = false → c.Out = noOut
 dirty : ∀ f ∈ c.Files, f.Dirty.length ≤ 1000
 body : ∀ f ∈ c.Files, f.Body.length ≤ 24
 asked : c.Out.Ask.Writes.length ≤ 1000
 until_ : ∀ f ∈ c.Files, 0 ≤ f.Until ∧ f.Until ≤ 9223372036854775807
 name : ∀ s ∈ c.Names, s.length ≤ 8
theorem fileAt_some {c : TClient} {n : Int} (h : c.Files.length = 6) (h1 : 1 ≤ n) (h6 : n ≤ 6) : c.Files[(n - 1).toNat]? = some (fileAt c n) := by
 unfold fileAt
 rw [List.getElem?_eq_getElem (show (n - 1).toNat < c.Files.length by omega)]; rfl
theorem fileAt_mem {c : TClient} {n : Int} (h : c.Files.length = 6) (h1 : 1 ≤ n) (h6 : n ≤ 6) : fileAt c n ∈ c.Files := List.mem_of_getElem? (fileAt_some h h1 h6)
@[reducible] def Wk (c : TClient) : Tclient_work := ⟨c, []⟩
def eW (w : Tclient_work) : Out3 := (w.Client, ⟨5, 0, []⟩, w.asked)
def eN (w : Tclient_work) : Out3 := (w.Client, ⟨5, 0, []⟩, [])
def eT (p : Tclient_told × Tclient_work) : Out3 := (p.2.Client, p.1.a, [])
def er4 : Tclient_work ⊕ (Tclient_work ⊕ ((Tclient_told × Tclient_work) ⊕ (Tclient_told × Tclient_work))) → Out3
 | .inl w => eW w
 | .inr (.inl w) => eW w
 | .inr (.inr (.inl p)) => eT p
 | .inr (.inr (.inr p)) => eT p
theorem of_ok (c : TClient) (h : c.Files.length < 1000) : client_of fuel c = some (Wk (lapseS c)) := by
 unfold client_of client_of_t client_of_l0
 simp only [get_opt, get_ret]
 obtain ⟨x, e, hx⟩ := iter_inv (step := client_of_s0 (c.Files.length : Int) c) (fun k v => ∃ i : Nat, v.1 = (i : Int) ∧ i + k = c.Files.length ∧ v.2 = Wk { c with Files := mapTo (fun f => cache_Lapse f c.Now) c.Files i }) (fun r => r = Wk (lapseS c)) (fun k v hI => by
  obtain ⟨v1, v2⟩ := v
  obtain ⟨i, hi, hk, he⟩ := hI
  simp only at hi he
  subst hi he
  simp only [client_of_s0, client_of_s0t, get_ite, get_opt, get_ret, get_fail, mapTo_len]
  by_cases hlt : i < c.Files.length
  ·have ha := List.getElem?_eq_getElem hlt
   rw [lt_dec hlt, inR_nat hlt, Int.toNat_natCast, mapTo_at _ _ ha, some_bind, mapTo_set (fun f => cache_Lapse f c.Now) _ ha, wi64_succ (by omega)]
   exact ⟨_, rfl, k - 1, by omega, i + 1, rfl, by omega, rfl⟩
  ·obtain rfl : i = c.Files.length := by omega
   rw [ge_dec]
   refine ⟨_, rfl, ?_⟩
   rw [mapTo_end]; rfl) c.Files.length (0, Wk c) fuel ⟨0, rfl, by omega, by rw [mapTo_zero]⟩ (fuel_gt (by omega))
 rw [e, some_bind, hx]
section
variable {c : TClient} {n : Int}
theorem file_ok (h : c.Files.length = 6) (h1 : 1 ≤ n) (h6 : n ≤ 6) (l : List TAsk) : client_work_file n ⟨c, l⟩ = some (.inl (n - 1).toNat) ∧ client_work_file_2 n ⟨c, l⟩ = some (.inl (n - 1).toNat) ∧ client_work_file_3 n ⟨c, l⟩ = some (.inl (n - 1).toNat) := by
 unfold client_work_file client_work_file_2 client_work_file_3 client_work_file_t client_work_file_2_t client_work_file_3_t
 simp only [get_ite, get_ret, get_fail]
 rw [decide_eq_false (show ¬ n < 1 by omega), decide_eq_false (show ¬ n > (c.Files.length : Int) by omega), wi64_of (by omega) (by omega), inR_of (by omega) (by omega)]
 exact ⟨rfl, rfl, rfl⟩
theorem free_ok (l : List TAsk) : client_work_free ⟨c, l⟩ = some (bif c.Out.Is then .inr ⟨⟨4, 0, []⟩⟩ else .inl ()) ∧ client_work_free_2 ⟨c, l⟩ = some (bif c.Out.Is then .inr ⟨⟨4, 0, []⟩⟩ else .inl ()) := by
 unfold client_work_free client_work_free_2 client_work_free_t client_work_free_2_t
 simp only [get_ite, get_ret]
 cases c.Out.Is <;> exact ⟨rfl, rfl⟩
theorem asks_ok (a : TAsk) (l : List TAsk) : client_work_asks a ⟨c, l⟩ = ⟨(askS c a).1, (askS c a).2.2⟩ ∧ client_work_asks_2 a ⟨c, l⟩ = ⟨(askS c a).1, (askS c a).2.2⟩ := ⟨rfl, rfl⟩
theorem says_ok (e : Int) (l : List TAsk) : client_work_says e ⟨c, l⟩ = ⟨⟨e, 0, []⟩⟩ ∧ client_work_says_2 e ⟨c, l⟩ = ⟨⟨e, 0, []⟩⟩ := ⟨rfl, rfl⟩
theorem view_ok {x : TCache} (hd : x.Dirty.length ≤ 1000) (hb : x.Body.length ≤ 24) : cache_View fuel x = some (allW x.Body x.Dirty) := by
 unfold cache_View cache_View_t
 simp only [get_opt, get_ret]
 rw [file_All_ok _ _ hd hb]; rfl
theorem reads_ok (S : Shape c) (h1 : 1 ≤ n) (h6 : n ≤ 6) : ∃ s, client_work_reads fuel n (Wk c) = some s ∧ er4 s = readsS c n := by
 have hx := fileAt_some S.files h1 h6
 have hm := fileAt_mem S.files h1 h6
 unfold client_work_reads client_work_reads_t readsS
 simp only [get_opt, get_ite, get_ret, get_altT, (file_ok S.files h1 h6 _).2.1, some_bind, alt_inl, hx, view_ok (S.dirty _ hm) (S.body _ hm), (free_ok _).2]
 by_cases hv : cache_Valid (fileAt c n) c.Now = 0
 ·rw [hv, if_neg (by simp)]
  cases hi : c.Out.Is with
  | true => exact ⟨_, rfl, rfl⟩
  | false => exact ⟨_, rfl, rfl⟩
 ·rw [if_pos hv, show (cache_Valid (fileAt c n) c.Now != 0) = true by simp [hv]]
  exact ⟨_, rfl, rfl⟩
theorem gives_ok (S : Shape c) (h1 : 1 ≤ n) (h6 : n ≤ 6) (l : List TAsk) : client_work_gives n ⟨c, l⟩ = some (.inl ⟨(givesS c n).1, (givesS c n).2.2⟩) ∧ client_work_gives_2 n ⟨c, l⟩ = some (.inl ⟨(givesS c n).1, (givesS c n).2.2⟩) := by
 have hx := fileAt_some S.files h1 h6
 have hl : (n - 1).toNat < c.Files.length := at_of hx
 have hr : ∀ x : TCache, cache_Reset x = { noCache with Lost := (cache_Reset x).Lost } := fun x => by
  unfold cache_Reset cache_Reset_t; simp only [val_ite, val_ret]; cases x.Lost <;> rfl
 unfold client_work_gives client_work_gives_2 client_work_gives_t client_work_gives_2_t
 simp only [get_opt, get_ite, get_ret, get_altT, (file_ok S.files h1 h6 _).1, (file_ok S.files h1 h6 _).2.1, some_bind, alt_inl, hx, (asks_ok _ _).2]
 have h2 : ∀ a : TAsk, (askS c a).1.Files = c.Files := fun _ => rfl
 simp only [h2, hx, some_bind, List.getElem?_set, if_pos hl, List.set_set]
 rw [if_pos trivial, some_bind, hr (fileAt c n)]
 exact ⟨rfl, rfl⟩
theorem flushes_ok (S : Shape c) (h1 : 1 ≤ n) (h6 : n ≤ 6) (l : List TAsk) : client_work_flushes n ⟨c, l⟩ = some (.inl ⟨(flushS c n).1, (flushS c n).2.2⟩) := by
 have hx := fileAt_some S.files h1 h6
 have hl : (n - 1).toNat < c.Files.length := at_of hx
 unfold client_work_flushes client_work_flushes_t
 simp only [get_opt, get_ite, get_ret, get_altT, (file_ok S.files h1 h6 _).2.1, some_bind, alt_inl, hx, (asks_ok _ _).2]
 simp only [List.getElem?_set, if_pos hl]
 rw [if_pos trivial, some_bind]
 rfl
end
open Go
def er3 : Tclient_work ⊕ (Tclient_work ⊕ (Tclient_told × Tclient_work)) → Out3
 | .inl w => eW w
 | .inr (.inl w) => eW w
 | .inr (.inr p) => eT p
def erO : Tclient_work ⊕ (Tclient_told × Tclient_work) → Out3
 | .inl w => eW w
 | .inr p => eT p
def er7 : Tclient_work ⊕ (Tclient_work ⊕ (Tclient_work ⊕ (Tclient_work ⊕ ((Tclient_told × Tclient_work) ⊕ ((Tclient_told × Tclient_work) ⊕ (Tclient_told × Tclient_work)))))) → Out3
 | .inl w => eW w
 | .inr (.inl w) => eW w
 | .inr (.inr (.inl w)) => eW w
 | .inr (.inr (.inr (.inl w))) => eW w
 | .inr (.inr (.inr (.inr (.inl p)))) => eT p
 | .inr (.inr (.inr (.inr (.inr (.inl p))))) => eT p
 | .inr (.inr (.inr (.inr (.inr (.inr p))))) => eT p
theorem buffer_ok (x : TCache) (w : TWrite) (h : x.Dirty.length ≤ 1000) : cache_Buffer x w = some (if bufOk x w = true then ({ x with Dirty := x.Dirty ++ [w] }, true) else (x, false)) := by
 unfold cache_Buffer cache_Buffer_t bufOk
 simp only [get_ite, get_ret, get_fail]
 by_cases h5 : x.Dirty.length < 5
 ·rw [decide_eq_false (show ¬ (x.Dirty.length : Int) ≥ 5 by omega), decide_eq_true h5, decide_eq_true (show x.Dirty.length + 1 ≤ lim by rw [lim_eq]; omega)]
  by_cases hm : x.Mode = 2
  ·rw [hm]
   cases file_May w <;> rfl
  ·rw [show (x.Mode != 2) = true by simp [hm], show (x.Mode == 2) = false by simp [hm]]
   rfl
 ·rw [decide_eq_true (show (x.Dirty.length : Int) ≥ 5 by omega), decide_eq_false h5]
  rfl
theorem writes_ok {c : TClient} {n : Int} (S : Shape c) (h1 : 1 ≤ n) (h6 : n ≤ 6) (x : TWrite) : ∃ s, client_work_writes n x (Wk c) = some s ∧ er7 s = writesS c n x := by
 have hx := fileAt_some S.files h1 h6
 have hm := fileAt_mem S.files h1 h6
 unfold client_work_writes client_work_writes_t writesS
 simp only [get_opt, get_ite, get_ret, get_altT, (file_ok S.files h1 h6 _).2.1, some_bind, alt_inl, hx, buffer_ok _ x (S.dirty _ hm), (free_ok _).2, (says_ok _ _).2, (gives_ok S h1 h6 _).1, flushes_ok S h1 h6]
 by_cases hv : cache_Valid (fileAt c n) c.Now = 2
 ·rw [hv]
  by_cases hb : bufOk (fileAt c n) x = true
  ·rw [if_pos hb]
   cases hc : (fileAt c n).Called with
   | false => rw [if_pos ⟨rfl, rfl, hb⟩]; exact ⟨_, rfl, rfl⟩
   | true =>
    rw [if_neg (by simp)]
    cases hi : c.Out.Is with
    | true => exact ⟨_, rfl, rfl⟩
    | false => rw [if_neg (by simp), if_neg (by simp), if_pos rfl]; exact ⟨_, rfl, rfl⟩
  ·rw [if_neg hb, if_neg (by simp [hb])]
   cases hc : (fileAt c n).Called with
   | false =>
    cases hi : c.Out.Is with
    | true => exact ⟨_, rfl, rfl⟩
    | false => rw [if_neg (by simp), if_neg (by simp), if_neg (by simp)]; exact ⟨_, rfl, rfl⟩
   | true =>
    cases hi : c.Out.Is with
    | true => exact ⟨_, rfl, rfl⟩
    | false => rw [if_neg (by simp), if_neg (by simp), if_pos rfl]; exact ⟨_, rfl, rfl⟩
 ·rw [show (cache_Valid (fileAt c n) c.Now == 2) = false by simp [hv], if_neg (show ¬ (cache_Valid (fileAt c n) c.Now = 2 ∧ (fileAt c n).Called = false ∧ bufOk (fileAt c n) x = true) from fun h => hv h.1)]
  cases hi : c.Out.Is with
  | true => exact ⟨_, rfl, rfl⟩
  | false => rw [if_neg (show ¬ (false = true) by simp), if_pos hv]; exact ⟨_, rfl, rfl⟩
theorem len_eqz {α : Type} (l : List α) : ((l.length : Int) == 0) = decide (l = []) := by
 cases l with
 | nil => rfl
 | cons a r => simp <;> omega
theorem len_gtz {α : Type} (l : List α) : decide ((l.length : Int) > 0) = !decide (l = []) := by
 cases l with
 | nil => rfl
 | cons a r => simp <;> omega
theorem syncs_ok {c : TClient} {n : Int} (S : Shape c) (h1 : 1 ≤ n) (h6 : n ≤ 6) : ∃ s, client_work_syncs n (Wk c) = some s ∧ er4 s = syncsS c n := by
 have hx := fileAt_some S.files h1 h6
 unfold client_work_syncs client_work_syncs_t syncsS
 simp only [get_opt, get_ite, get_ret, get_altT, (file_ok S.files h1 h6 _).2.1, some_bind, alt_inl, hx, (free_ok _).2, (says_ok _ _).2, flushes_ok S h1 h6, len_eqz, len_gtz]
 cases hi : c.Out.Is with
 | false =>
  rw [if_neg (by simp)]
  by_cases hd : (fileAt c n).Dirty = []
  ·rw [if_pos hd, decide_eq_true hd]; exact ⟨_, rfl, rfl⟩
  ·rw [if_neg hd, decide_eq_false hd]; exact ⟨_, rfl, rfl⟩
 | true =>
  by_cases hk : c.Out.Ask.Kind = 4
  ·by_cases hf : c.Out.Ask.File = n
   ·by_cases hw : c.Out.Ask.Writes = []
    ·rw [if_neg (by simp [hw]), decide_eq_true hw, beq_of hk, beq_of hf]
     by_cases hd : (fileAt c n).Dirty = []
     ·rw [if_pos hd, decide_eq_true hd]; exact ⟨_, rfl, rfl⟩
     ·rw [if_neg hd, decide_eq_false hd]; exact ⟨_, rfl, rfl⟩
    ·rw [if_pos ⟨rfl, hk, hf, hw⟩, decide_eq_false hw, beq_of hk, beq_of hf]
     exact ⟨_, rfl, rfl⟩
   ·rw [if_neg (by simp [hf]), beq_of hk, beq_ne hf]
    by_cases hd : (fileAt c n).Dirty = []
    ·rw [if_pos hd, decide_eq_true hd]; exact ⟨_, rfl, rfl⟩
    ·rw [if_neg hd, decide_eq_false hd]; exact ⟨_, rfl, rfl⟩
  ·rw [if_neg (by simp [hk]), beq_ne hk]
   by_cases hd : (fileAt c n).Dirty = []
   ·rw [if_pos hd, decide_eq_true hd]; exact ⟨_, rfl, rfl⟩
   ·rw [if_neg hd, decide_eq_false hd]; exact ⟨_, rfl, rfl⟩
theorem drops_ok {c : TClient} {n : Int} (S : Shape c) (h1 : 1 ≤ n) (h6 : n ≤ 6) : ∃ s, client_work_drops n (Wk c) = some s ∧ er4 s = dropsS c n := by
 have hx := fileAt_some S.files h1 h6
 unfold client_work_drops client_work_drops_t dropsS
 simp only [get_opt, get_ite, get_ret, get_altT, (file_ok S.files h1 h6 _).2.1, some_bind, alt_inl, hx, (free_ok _).2, (says_ok _ _).2, (gives_ok S h1 h6 _).1]
 by_cases hm : (fileAt c n).Mode = 0
 ·rw [if_pos hm, beq_of hm]; exact ⟨_, rfl, rfl⟩
 ·rw [if_neg hm, beq_ne hm]
  cases hi : c.Out.Is <;> exact ⟨_, rfl, rfl⟩
theorem ends_ok {c : TClient} {n : Int} (S : Shape c) (h1 : 1 ≤ n) (h6 : n ≤ 6) : ∃ s, client_work_ends n (Wk c) = some s ∧ er3 s = endsS c n := by
 have hx := fileAt_some S.files h1 h6
 unfold client_work_ends client_work_ends_t endsS
 simp only [get_opt, get_ite, get_ret, get_altT, (file_ok S.files h1 h6 _).2.1, some_bind, alt_inl, hx, (free_ok _).2, (says_ok _ _).2, (asks_ok _ _).2, len_gtz]
 have h2 : ∀ a : TAsk, (askS c a).1.Files = c.Files := fun _ => rfl
 simp only [h2, hx, some_bind]
 cases hi : c.Out.Is with
 | true => exact ⟨_, rfl, rfl⟩
 | false =>
  by_cases hd : (fileAt c n).Dirty = []
  ·rw [decide_eq_true hd, if_neg (by simp), if_neg (by simp [hd])]; exact ⟨_, rfl, rfl⟩
  ·rw [decide_eq_false hd, if_neg (by simp), if_pos hd]; exact ⟨_, rfl, rfl⟩
theorem index_ok (l : List (List UInt8)) (s : List UInt8) (h : l.length < 1000) : slices_Index_string fuel l s = some (match findS l s with | some i => (i : Int) | none => -1) := by
 unfold slices_Index_string slices_Index_string_t slices_Index_string_l0
 simp only [get_opt, get_ret, get_altT]
 obtain ⟨x, e, hx⟩ := iter_inv (step := slices_Index_string_s0 l s (l.length : Int)) (fun k v => ∃ i : Nat, v = (i : Int) ∧ i + k = l.length ∧ findS l s = ((l.drop i).findIdx? (s == ·)).map (· + i)) (fun r => match findS l s with | some i => r = .inl (i : Int) | none => r = .inr ()) (fun k v hI => by
  obtain ⟨i, hi, hk, he⟩ := hI
  subst hi
  simp only [slices_Index_string_s0, slices_Index_string_s0t, get_ite, get_opt, get_ret, get_fail]
  by_cases hlt : i < l.length
  ·have ha := List.getElem?_eq_getElem hlt
   rw [lt_dec hlt, inR_nat hlt, Int.toNat_natCast, ha, some_bind]
   rw [List.drop_eq_getElem_cons hlt, List.findIdx?_cons] at he
   cases hc : (s == l[i]) with
   | true =>
    rw [hc] at he
    refine ⟨_, rfl, ?_⟩
    rw [he]; simp
   | false =>
    rw [hc] at he
    rw [wi64_succ (by omega)]
    refine ⟨_, rfl, k - 1, by omega, i + 1, rfl, by omega, ?_⟩
    rw [he]
    simp only [Bool.false_eq_true, if_false, Option.map_map]
    congr 1
    funext j
    simp; omega
  ·obtain rfl : i = l.length := by omega
   rw [ge_dec]
   refine ⟨_, rfl, ?_⟩
   rw [List.drop_length] at he
   rw [he]; rfl) l.length 0 fuel ⟨0, rfl, by omega, by unfold findS; simp⟩ (fuel_gt (by omega))
 rw [e, some_bind]
 cases hf : findS l s with
 | none => rw [hf] at hx; rw [hx]; rfl
 | some i => rw [hf] at hx; rw [hx]; rfl
theorem findS_lt {l : List (List UInt8)} {s : List UInt8} {i : Nat} (h : findS l s = some i) : i < l.length := by
 unfold findS at h
 exact (List.findIdx?_eq_some_iff_getElem.1 h).1
theorem opens_ok {c : TClient} (S : Shape c) (s : List UInt8) (hs : s.length < 4294967296) : ∃ r, client_work_opens fuel s (Wk c) = some r ∧ erO r = opensS c s := by
 unfold client_work_opens client_work_opens_t opensS
 simp only [get_opt, get_ite, get_ret, get_altT, dir_May_ok s hs, some_bind, index_ok c.Names s (by have := S.names; omega), (free_ok _).1, (says_ok _ _).1, (asks_ok _ _).1]
 cases hm : mayName s with
 | false => exact ⟨_, rfl, rfl⟩
 | true =>
  rw [if_neg (by simp)]
  cases hf : findS c.Names s with
  | some i =>
   have := findS_lt hf
   have := S.names
   simp only
   rw [decide_eq_true (show (i : Int) ≥ 0 by omega), wi64_of (by omega) (by omega)]
   exact ⟨_, rfl, rfl⟩
  | none =>
   simp only
   cases hi : c.Out.Is <;> exact ⟨_, rfl, rfl⟩
@[reducible] def Tk : Type := Tclient_told × Tclient_work
@[reducible] def Wr : Type := Tclient_work
def er15 : Wr ⊕ (Wr ⊕ (Wr ⊕ (Wr ⊕ (Wr ⊕ (Wr ⊕ (Wr ⊕ (Wr ⊕ (Wr ⊕ (Tk ⊕ (Tk ⊕ (Tk ⊕ (Tk ⊕ (Tk ⊕ Tk))))))))))))) → Out3
 | .inl w => eN w
 | .inr (.inl w) => eN w
 | .inr (.inr (.inl w)) => eW w
 | .inr (.inr (.inr (.inl w))) => eW w
 | .inr (.inr (.inr (.inr (.inl w)))) => eW w
 | .inr (.inr (.inr (.inr (.inr (.inl w))))) => eW w
 | .inr (.inr (.inr (.inr (.inr (.inr (.inl w)))))) => eW w
 | .inr (.inr (.inr (.inr (.inr (.inr (.inr (.inl w))))))) => eW w
 | .inr (.inr (.inr (.inr (.inr (.inr (.inr (.inr (.inl w)))))))) => eW w
 | .inr (.inr (.inr (.inr (.inr (.inr (.inr (.inr (.inr (.inl p))))))))) => eT p
 | .inr (.inr (.inr (.inr (.inr (.inr (.inr (.inr (.inr (.inr (.inl p)))))))))) => eT p
 | .inr (.inr (.inr (.inr (.inr (.inr (.inr (.inr (.inr (.inr (.inr (.inl p))))))))))) => eT p
 | .inr (.inr (.inr (.inr (.inr (.inr (.inr (.inr (.inr (.inr (.inr (.inr (.inl p)))))))))))) => eT p
 | .inr (.inr (.inr (.inr (.inr (.inr (.inr (.inr (.inr (.inr (.inr (.inr (.inr (.inl p))))))))))))) => eT p
 | .inr (.inr (.inr (.inr (.inr (.inr (.inr (.inr (.inr (.inr (.inr (.inr (.inr (.inr p))))))))))))) => eT p
theorem step_ok {c : TClient} (S : Shape c) (s : TStep) (hs : s.Text.length < 4294967296) : ∃ r, client_work_step fuel s (Wk c) = some r ∧ er15 r = stepS c s := by
 unfold client_work_step client_work_step_t stepS
 simp only [get_opt, get_ite, get_ret, get_altT, (says_ok _ _).1, (says_ok _ _).2]
 by_cases k1 : s.Kind < 3
 ·rw [decide_eq_true k1, if_pos (Or.inl k1)]; exact ⟨_, rfl, rfl⟩
 by_cases k2 : s.Kind > 8
 ·rw [decide_eq_false k1, decide_eq_true k2, if_pos (Or.inr k2)]; exact ⟨_, rfl, rfl⟩
 rw [decide_eq_false k1, decide_eq_false k2, if_neg (by omega)]
 simp only [cond_false]
 by_cases k3 : s.Kind = 3
 ·rw [if_pos k3, beq_of k3, cond_true]
  obtain ⟨r, e, hr⟩ := opens_ok S s.Text hs
  rw [e, some_bind, ← hr]
  rcases r with r | r <;> exact ⟨_, rfl, rfl⟩
 rw [if_neg k3, beq_ne k3, cond_false]
 by_cases f1 : s.File < 1
 ·rw [decide_eq_true f1, if_pos (Or.inl f1)]; exact ⟨_, rfl, rfl⟩
 by_cases f2 : s.File > 6
 ·rw [decide_eq_false f1, S.files, decide_eq_true (show s.File > ((6 : Nat) : Int) from f2), if_pos (Or.inr f2)]; exact ⟨_, rfl, rfl⟩
 rw [decide_eq_false f1, S.files, decide_eq_false (show ¬ s.File > ((6 : Nat) : Int) from f2), if_neg (by omega)]
 have h1 : 1 ≤ s.File := by omega
 have h6 : s.File ≤ 6 := by omega
 have hx := fileAt_some S.files h1 h6
 simp only [cond_false, (file_ok S.files h1 h6 _).1, some_bind, alt_inl, hx]
 by_cases k5 : s.Kind = 5
 ·obtain ⟨r, e, hr⟩ := writes_ok S h1 h6 ⟨s.Off, s.Text⟩
  rw [k5]
  simp only [e, some_bind, true_and, show ((5 : Int) == 5) = true from rfl, show ((5 : Int) == 4) = false from rfl, show ((5 : Int) != 8) = true from rfl, cond_true, cond_false]
  cases hm : file_May ⟨s.Off, s.Text⟩ with
  | false => exact ⟨_, rfl, rfl⟩
  | true =>
   rw [if_neg (by simp)]
   cases hl : (fileAt c s.File).Lost with
   | true => exact ⟨_, rfl, rfl⟩
   | false =>
    rw [if_neg (by simp), ← hr]
    rcases r with r | r | r | r | r | r | r <;> exact ⟨_, rfl, rfl⟩
 ·rw [beq_ne k5, if_neg (fun h => k5 h.1)]
  simp only [cond_false, if_neg k5]
  by_cases k8 : s.Kind = 8
  ·rw [k8]
   obtain ⟨r, e, hr⟩ := ends_ok S h1 h6
   simp only [e, some_bind, show ((8 : Int) == 8) = true from rfl, show ((8 : Int) == 4) = false from rfl, show ((8 : Int) == 6) = false from rfl, show ((8 : Int) == 7) = false from rfl, show ((8 : Int) != 8) = false from rfl, cond_true, cond_false]
   rw [if_neg (by simp), ← hr]
   cases hl : (fileAt c s.File).Lost <;> rcases r with r | r | r <;> exact ⟨_, rfl, rfl⟩
  ·rw [show (s.Kind != 8) = true by simp [k8]]
   simp only [cond_true]
   cases hl : (fileAt c s.File).Lost with
   | true => rw [if_pos ⟨rfl, k8⟩]; exact ⟨_, rfl, rfl⟩
   | false =>
    rw [if_neg (by simp)]
    simp only [cond_false]
    by_cases k4 : s.Kind = 4
    ·obtain ⟨r, e, hr⟩ := reads_ok S h1 h6
     rw [if_pos k4, beq_of k4, e, cond_true, some_bind, ← hr]
     rcases r with r | r | r | r <;> exact ⟨_, rfl, rfl⟩
    rw [if_neg k4, beq_ne k4, cond_false]
    by_cases k6 : s.Kind = 6
    ·obtain ⟨r, e, hr⟩ := syncs_ok S h1 h6
     rw [if_pos k6, beq_of k6, e, cond_true, some_bind, ← hr]
     rcases r with r | r | r | r <;> exact ⟨_, rfl, rfl⟩
    rw [if_neg k6, beq_ne k6, cond_false]
    have k7 : s.Kind = 7 := by omega
    obtain ⟨r, e, hr⟩ := drops_ok S h1 h6
    rw [if_pos k7, beq_of k7, e, cond_true, some_bind, ← hr]
    rcases r with r | r | r | r <;> exact ⟨_, rfl, rfl⟩
@[reducible] def Ak : Type := TAns × Tclient_work
def eA (p : Ak) : Out3 := (p.2.Client, p.1, [])
def er13 : Ak ⊕ (Ak ⊕ (Ak ⊕ (Ak ⊕ (Ak ⊕ (Ak ⊕ (Wr ⊕ (Wr ⊕ (Wr ⊕ (Wr ⊕ (Wr ⊕ (Wr ⊕ Wr))))))))))) → Out3
 | .inl p => eA p
 | .inr (.inl p) => eA p
 | .inr (.inr (.inl p)) => eA p
 | .inr (.inr (.inr (.inl p))) => eA p
 | .inr (.inr (.inr (.inr (.inl p)))) => eA p
 | .inr (.inr (.inr (.inr (.inr (.inl p))))) => eA p
 | .inr (.inr (.inr (.inr (.inr (.inr (.inl w)))))) => eW w
 | .inr (.inr (.inr (.inr (.inr (.inr (.inr (.inl w))))))) => eW w
 | .inr (.inr (.inr (.inr (.inr (.inr (.inr (.inr (.inl w)))))))) => eW w
 | .inr (.inr (.inr (.inr (.inr (.inr (.inr (.inr (.inr (.inl w))))))))) => eW w
 | .inr (.inr (.inr (.inr (.inr (.inr (.inr (.inr (.inr (.inr (.inl w)))))))))) => eW w
 | .inr (.inr (.inr (.inr (.inr (.inr (.inr (.inr (.inr (.inr (.inr (.inl w))))))))))) => eW w
 | .inr (.inr (.inr (.inr (.inr (.inr (.inr (.inr (.inr (.inr (.inr (.inr w))))))))))) => eW w
theorem does_ok {c : TClient} (S : Shape c) (s : TStep) (hs : s.Text.length < 4294967296) : ∃ r, client_work_does fuel s (Wk c) = some r ∧ er13 r = stepS c s := by
 obtain ⟨r, e, hr⟩ := step_ok S s hs
 unfold client_work_does client_work_does_t
 simp only [get_opt, get_ite, get_ret, get_altT, e, some_bind]
 rw [← hr]
 rcases r with r | r | r | r | r | r | r | r | r | r | r | r | r | r | r <;> exact ⟨_, rfl, rfl⟩
open Go
def againS (c : TClient) : TClient × List TAsk := ({ c with Out := { c.Out with Last := c.Now } }, [c.Out.Ask])
def epochS (c : TClient) (t : TTell) : TClient × List TAsk :=
 if t.Epoch ≤ c.Epoch then (c, []) else
 if c.Out.Is = true then againS { c with Epoch := t.Epoch, Files := c.Files.map cache_Reset, Out := { c.Out with Ask := { c.Out.Ask with Epoch := t.Epoch } } }
 else ({ c with Epoch := t.Epoch, Files := c.Files.map cache_Reset }, [])
def callF (c : TClient) (n : Int) : TClient := setF c n { fileAt c n with Called := true }
def calledS (c : TClient) (t : TTell) : TClient × List TAsk :=
 if t.Epoch ≠ c.Epoch ∨ (fileAt c t.File).Mode = 0 then (c, []) else
 if c.Out.Is = true then (callF c t.File, []) else ((givesS (callF c t.File) t.File).1, (givesS (callF c t.File) t.File).2.2)
def namedS (l : List (List UInt8)) (s : List UInt8) (n : Int) : List (List UInt8) :=
 if n < 1 ∨ (l.length : Int) < n then l else (l.map fun x => if x == s then [] else x).set (n - 1).toNat s
def sentN (x : TCache) : Nat := (imax (imin x.Sent (x.Dirty.length : Int)) 0).toNat
def doneC (x : TCache) (ver : Int) : TCache :=
 if x.Mode ≠ 2 then x else ⟨x.Mode, x.Until, ver, allW x.Body (x.Dirty.take (sentN x)), x.Dirty.drop (sentN x), 0, x.Called, x.Lost⟩
def addI (a b : Int) : Int := clock_Add a b
def tellS (c : TClient) (o : TOut) (t : TTell) : TClient :=
 if o.Ask.Kind = 1 then (if t.Err = 0 then { c with Names := namedS c.Names o.Ask.Name t.File } else c)
 else if o.Ask.Kind = 2 then (if t.Err = 0 ∧ c.Now < addI o.First 49 ∧ t.Mode ≠ 0 then setF c o.Ask.File (cache_Let (fileAt c o.Ask.File) t.Mode (addI o.First 49) t.Ver t.Body) else c)
 else if o.Ask.Kind = 3 then setF c o.Ask.File (if t.Err = 0 then doneC (fileAt c o.Ask.File) t.Ver else cache_Reset (fileAt c o.Ask.File))
 else if o.Ask.Kind = 4 then setF c o.Ask.File { fileAt c o.Ask.File with Lost := (fileAt c o.Ask.File).Lost || (!decide (t.Err = 0) && !decide (o.Ask.Writes = [])) }
 else if t.Err = 0 then { c with Names := c.Names.set (o.Ask.File - 1).toNat [] } else c
def doneS (c : TClient) (t : TTell) : TClient :=
 if t.Epoch ≠ c.Epoch ∨ c.Out.Is = false ∨ t.Seq ≠ c.Out.Ask.Seq then c else tellS { c with Out := noOut } c.Out t
def hearS (c : TClient) (t : TTell) : TClient × List TAsk :=
 if t.Kind = 3 then epochS c t else if t.Kind = 2 then calledS c t else (doneS c t, [])
def comeS (c : TClient) (b : List UInt8) : TClient × List TAsk :=
 if (takeTell b).2 = false ∨ (takeTell b).1.To ≠ c.ID then ({ c with Bad := imin (wi64 (c.Bad + 1)) 1073741824 }, []) else hearS c (takeTell b).1
def comesS (c : TClient) (b : List UInt8) : TClient × List TAsk := comeS (lapseS c) b
def dueS (c : TClient) : Bool := decide (wi64 (c.Now - c.Out.Last) ≥ 10)
def earlyF (c : TClient) (f : TCache) : Bool := (f.Mode != 0) && (f.Called || (!decide (f.Dirty = []) && decide (c.Now ≥ wi64 (f.Until - 15))))
def rnS (c : TClient) : TClient × List TAsk :=
 if c.Out.Is = true then (if dueS c = true then againS c else (c, [])) else
 match c.Files.findIdx? (earlyF c) with
 | some i => ((givesS c ((i : Int) + 1)).1, (givesS c ((i : Int) + 1)).2.2)
 | none => (c, [])
def runS (c : TClient) : TClient × List TAsk := rnS (lapseS c)
def eP (w : Tclient_work) : TClient × List TAsk := (w.Client, w.asked)
def eQ (w : Tclient_work) : TClient × List TAsk := (w.Client, [])
theorem epoch_ok {c : TClient} (h : c.Files.length < 1000) (t : TTell) : ∃ s, client_work_epoch fuel t (Wk c) = some s ∧ (match s with | .inl w => eQ w | .inr w => eP w) = epochS c t := by
 unfold client_work_epoch client_work_epoch_t client_work_epoch_l0 epochS
 simp only [get_opt, get_ret, get_ite]
 by_cases he : t.Epoch ≤ c.Epoch
 ·rw [decide_eq_true he, if_pos he]; exact ⟨_, rfl, rfl⟩
 rw [decide_eq_false he, if_neg he, cond_false]
 obtain ⟨x, e, hx⟩ := iter_inv (step := client_work_epoch_s0 (c.Files.length : Int) t) (fun k v => ∃ i : Nat, v.1 = (i : Int) ∧ i + k = c.Files.length ∧ v.2 = Wk { c with Epoch := t.Epoch, Files := mapTo cache_Reset c.Files i }) (fun r => r = Wk { c with Epoch := t.Epoch, Files := c.Files.map cache_Reset }) (fun k v hI => by
  obtain ⟨v1, v2⟩ := v
  obtain ⟨i, hi, hk, he⟩ := hI
  simp only at hi he
  subst hi he
  simp only [client_work_epoch_s0, client_work_epoch_s0t, get_ite, get_opt, get_ret, get_fail, mapTo_len]
  by_cases hlt : i < c.Files.length
  ·have ha := List.getElem?_eq_getElem hlt
   rw [lt_dec hlt, inR_nat hlt, Int.toNat_natCast, mapTo_at _ _ ha, some_bind, mapTo_set cache_Reset _ ha, wi64_succ (by omega)]
   exact ⟨_, rfl, k - 1, by omega, i + 1, rfl, by omega, rfl⟩
  ·obtain rfl : i = c.Files.length := by omega
   rw [ge_dec]
   refine ⟨_, rfl, ?_⟩
   rw [mapTo_end]; rfl) c.Files.length (0, Wk { c with Epoch := t.Epoch }) fuel ⟨0, rfl, by omega, by rw [mapTo_zero]⟩ (fuel_gt (by omega))
 rw [e, some_bind, hx]
 simp only
 cases hi : c.Out.Is with
 | true => exact ⟨_, rfl, rfl⟩
 | false => exact ⟨_, rfl, rfl⟩
theorem shape_setF {c : TClient} (S : Shape c) (n : Int) (x : TCache) (hd : x.Dirty.length ≤ 1000) (hb : x.Body.length ≤ 24) (hu : 0 ≤ x.Until ∧ x.Until ≤ 9223372036854775807) : Shape (setF c n x) where
 files := by unfold setF; simp [S.files]
 names := S.names
 out := S.out
 dirty := fun f hf => by rcases List.mem_or_eq_of_mem_set hf with h | h; exact S.dirty f h; rw [h]; exact hd
 body := fun f hf => by rcases List.mem_or_eq_of_mem_set hf with h | h; exact S.body f h; rw [h]; exact hb
 asked := S.asked
 until_ := fun f hf => by rcases List.mem_or_eq_of_mem_set hf with h | h; exact S.until_ f h; rw [h]; exact hu
 name := S.name
theorem shape_call {c : TClient} (S : Shape c) {n : Int} (h1 : 1 ≤ n) (h6 : n ≤ 6) : Shape (callF c n) :=
 have hm := fileAt_mem S.files h1 h6
 shape_setF S n _ (S.dirty (fileAt c n) hm) (S.body (fileAt c n) hm) (S.until_ (fileAt c n) hm)
theorem called_ok {c : TClient} (S : Shape c) (t : TTell) (h1 : 1 ≤ t.File) (h6 : t.File ≤ 6) :
  ∃ s, client_work_called t (Wk c) = some s ∧ (match s with | .inl w => eQ w | .inr (.inl w) => eQ w | .inr (.inr (.inl w)) => eP w | .inr (.inr (.inr w)) => eP w) = calledS c t := by
 have hx := fileAt_some S.files h1 h6
 unfold client_work_called client_work_called_t calledS
 simp only [get_opt, get_ite, get_ret, get_altT, (file_ok S.files h1 h6 _).1, some_bind, alt_inl, hx]
 by_cases he : t.Epoch = c.Epoch
 ·by_cases hm : (fileAt c t.File).Mode = 0
  ·rw [if_pos (Or.inr hm), beq_of hm, show (t.Epoch != c.Epoch) = false by simp [he]]
   exact ⟨_, rfl, rfl⟩
  ·rw [if_neg (by simp [he, hm]), beq_ne hm, show (t.Epoch != c.Epoch) = false by simp [he]]
   cases hi : c.Out.Is with
   | true => exact ⟨_, rfl, rfl⟩
   | false =>
    have hg := (gives_ok (shape_call S h1 h6) h1 h6 []).1
    simp only [cond_false, Bool.not_false, cond_true]
    rw [show (⟨{ c with Files := c.Files.set (t.File - 1).toNat { fileAt c t.File with Called := true } }, []⟩ : Tclient_work) = Wk (callF c t.File) from rfl, hg]
    exact ⟨_, rfl, rfl⟩
 ·rw [if_pos (Or.inl he), show (t.Epoch != c.Epoch) = true by simp [he]]
  exact ⟨_, rfl, rfl⟩
theorem file_none {c : TClient} {n : Int} (h : n < 1) (l : List TAsk) : client_work_file_3 n ⟨c, l⟩ = some (.inr ()) := by
 unfold client_work_file_3 client_work_file_3_t
 simp only [get_ite, get_ret, get_fail]
 rw [decide_eq_true h]; rfl
theorem named_loop (c : TClient) (ho : c.Out = noOut) (s : List UInt8) (n : Int) (h : c.Names.length < 1000) : client_work_named_l0 fuel s n (c.Names.length : Int) 0 (Wk c) = some (Wk { c with Names := c.Names.map fun x => if x == s then [] else x }) ∧ client_work_named_2_l0 fuel s n (c.Names.length : Int) 0 (Wk c) = some (Wk { c with Names := c.Names.map fun x => if x == s then [] else x }) := by
 obtain ⟨id, now, ep, sq, fs, nm, o, bad, hits, asks⟩ := c
 simp only at ho h
 subst ho
 unfold client_work_named_l0 client_work_named_2_l0
 let I : Nat → Int × Tclient_work → Prop := fun k v => ∃ i : Nat, v.1 = (i : Int) ∧ i + k = nm.length ∧ v.2 = Wk ⟨id, now, ep, sq, fs, mapTo (fun x => if x == s then [] else x) nm i, noOut, bad, hits, asks⟩
 let Q : Tclient_work → Prop := fun x => x = Wk ⟨id, now, ep, sq, fs, nm.map (fun x => if x == s then [] else x), noOut, bad, hits, asks⟩
 have key : ∀ k (v : Int × Tclient_work), I k v →
   ∃ o, client_work_named_s0 s n (nm.length : Int) v = some o ∧ client_work_named_2_s0 s n (nm.length : Int) v = some o ∧ Sum.elim (fun v' => ∃ k', k' < k ∧ I k' v') Q o := fun k v hI => by
  obtain ⟨v1, v2⟩ := v
  obtain ⟨i, hi, hk, he⟩ := hI
  simp only at hi he
  subst hi he
  simp only [client_work_named_s0, client_work_named_s0t, client_work_named_2_s0, client_work_named_2_s0t, get_ite, get_opt, get_ret, get_fail, mapTo_len]
  by_cases hlt : i < nm.length
  ·have ha := List.getElem?_eq_getElem hlt
   have hs := mapTo_set (fun x => if x == s then [] else x) _ ha
   rw [lt_dec hlt, inR_nat hlt, Int.toNat_natCast, mapTo_at _ _ ha, some_bind, wi64_succ (by omega)]
   cases hc : (nm[i] == s) with
   | true =>
    simp only [hc, if_true] at hs
    simp only [hs]
    exact ⟨_, rfl, rfl, k - 1, by omega, i + 1, rfl, by omega, rfl⟩
   | false =>
    simp only [hc, Bool.false_eq_true, if_false] at hs
    have hm := mapTo_at (fun x => if x == s then [] else x) nm ha
    have hset : (mapTo (fun x => if x == s then [] else x) nm i).set i nm[i] = mapTo (fun x => if x == s then [] else x) nm i := by
     apply List.ext_getElem?
     intro j
     rw [List.getElem?_set]
     split
     ·rename_i h; subst h; rw [hm]; simp [mapTo_len, hlt]
     ·rfl
    rw [hset] at hs
    rw [hs]
    exact ⟨_, rfl, rfl, k - 1, by omega, i + 1, rfl, by omega, rfl⟩
  ·obtain rfl : i = nm.length := by omega
   rw [ge_dec]
   refine ⟨_, rfl, rfl, ?_⟩
   rw [mapTo_end]; rfl
 constructor
 ·obtain ⟨x, e, hx⟩ := iter_inv (step := client_work_named_s0 s n (nm.length : Int)) I Q (fun k v hI => by
   obtain ⟨o, e1, _, h⟩ := key k v hI
   exact ⟨o, e1, h⟩) nm.length (0, Wk ⟨id, now, ep, sq, fs, nm, noOut, bad, hits, asks⟩) fuel ⟨0, rfl, by omega, by rw [mapTo_zero]⟩ (fuel_gt (by omega))
  rw [e, hx]
 ·obtain ⟨x, e, hx⟩ := iter_inv (step := client_work_named_2_s0 s n (nm.length : Int)) I Q (fun k v hI => by
   obtain ⟨o, _, e1, h⟩ := key k v hI
   exact ⟨o, e1, h⟩) nm.length (0, Wk ⟨id, now, ep, sq, fs, nm, noOut, bad, hits, asks⟩) fuel ⟨0, rfl, by omega, by rw [mapTo_zero]⟩ (fuel_gt (by omega))
  rw [e, hx]
open Go
theorem named_ok (c : TClient) (ho : c.Out = noOut) (s : List UInt8) (n : Int) (h : c.Names.length < 1000) : client_work_named fuel s n (Wk c) = some (Wk { c with Names := namedS c.Names s n }) ∧ client_work_named_2 fuel s n (Wk c) = some (Wk { c with Names := namedS c.Names s n }) := by
 obtain ⟨l1, l2⟩ := named_loop c ho s n h
 obtain ⟨id, now, ep, sq, fs, nm, o, bad, hits, asks⟩ := c
 simp only at ho h l1 l2
 subst ho
 unfold client_work_named client_work_named_2 client_work_named_t client_work_named_2_t namedS
 simp only [get_opt, get_ite, get_ret, get_fail]
 by_cases c1 : n < 1
 ·rw [decide_eq_true c1, if_pos (Or.inl c1)]; exact ⟨rfl, rfl⟩
 by_cases c2 : n > (nm.length : Int)
 ·rw [decide_eq_false c1, decide_eq_true c2, if_pos (Or.inr c2)]; exact ⟨rfl, rfl⟩
 rw [decide_eq_false c1, decide_eq_false c2, if_neg (by omega)]
 simp only [cond_false]
 have e : (⟨⟨id, now, ep, sq, fs, nm, { noOut with Ask := { noOut.Ask with Writes := [] } }, bad, hits, asks⟩, []⟩ : Tclient_work) = Wk ⟨id, now, ep, sq, fs, nm, noOut, bad, hits, asks⟩ := rfl
 rw [e, l1, l2]
 simp only [some_bind, List.length_map]
 rw [wi64_of (show -9223372036854775808 ≤ n - 1 by omega) (by omega), inR_of (by omega) (by omega), List.getElem?_eq_getElem (show (n - 1).toNat < (nm.map fun x => if x == s then [] else x).length by simp; omega), some_bind]
 exact ⟨rfl, rfl⟩
theorem sentN_le (x : TCache) : sentN x ≤ x.Dirty.length := by
 unfold sentN imax imin
 split <;> split <;> omega
theorem Done_ok (x : TCache) (ver : Int) (hd : x.Dirty.length ≤ 1000) (hb : x.Body.length ≤ 24) : cache_Done fuel x ver = some (doneC x ver) := by
 have hn : imax (imin x.Sent (x.Dirty.length : Int)) 0 = (sentN x : Int) := by
  unfold sentN imax imin; split <;> split <;> omega
 have hle := sentN_le x
 unfold cache_Done cache_Done_t doneC
 simp only [get_opt, get_ite, get_ret, get_fail, hn]
 by_cases hm : x.Mode = 2
 ·rw [if_neg (by simp [hm]), show (x.Mode != 2) = false by simp [hm], cutOk_of (Int.le_refl _) (by omega) (by omega), cutOk_of (by omega) (by omega) (Int.le_refl _), cut_front, cut_back, file_All_ok _ _ (by simp; omega) hb, some_bind]
  rfl
 ·rw [if_pos hm, show (x.Mode != 2) = true by simp [hm]]; rfl
theorem short_60 : clock_Short 60 100 = some 49 := by rfl
def askShape (a : TAsk) : Prop := (a.Kind = 1 ∧ a.File = 0) ∨ ((2 ≤ a.Kind ∧ a.Kind ≤ 5) ∧ 1 ≤ a.File ∧ a.File ≤ 6)
theorem askShape_of {a : TAsk} (h : mayAsk a = true) : askShape a := by
 have hk := (mayAsk_of h).1
 unfold mayAsk at h
 simp only [Bool.and_eq_true] at h
 obtain ⟨h1, h2, h3, h4, h5, h6⟩ := h
 have h6 := (sameAsk_iff _ _).1 h6
 by_cases k1 : a.Kind = 1
 ·refine Or.inl ⟨k1, ?_⟩
  unfold want at h6
  rw [beq_of k1] at h6
  simp only [cond_true] at h6
  rw [h6]
 ·refine Or.inr ⟨by omega, ?_⟩
  unfold wantOk at h5
  rw [beq_ne k1] at h5
  by_cases k2 : a.Kind = 2
  ·rw [beq_of k2] at h5
   simp only [cond_true, cond_false, Bool.and_eq_true, rng_iff] at h5
   exact h5.1
  ·rw [beq_ne k2] at h5
   simp only [cond_false] at h5
   cases hw : wantW a with
   | true => rw [hw] at h5; simp only [cond_true, Bool.and_eq_true, rng_iff] at h5; exact h5.2.2.1
   | false => rw [hw] at h5; simp only [cond_false, rng_iff] at h5; exact h5
def eD : Tclient_work ⊕ Tclient_work → TClient
 | .inl w => { w.Client with Out := { w.Client.Out with Ask := { w.Client.Out.Ask with Writes := [] } } }
 | .inr w => w.Client
theorem done_ok {c : TClient} (S : Shape c) (A : c.Out.Is = true → askShape c.Out.Ask) (t : TTell) : ∃ s, client_work_done fuel t (Wk c) = some s ∧ eD s = doneS c t := by
 unfold client_work_done client_work_done_t doneS
 simp only [get_opt, get_ite, get_ret, get_fail, get_altT]
 by_cases he : t.Epoch = c.Epoch
 case neg => rw [if_pos (Or.inl he), show (t.Epoch != c.Epoch) = true by simp [he]]; exact ⟨_, rfl, rfl⟩
 cases hi : c.Out.Is with
 | false => rw [if_pos (Or.inr (Or.inl rfl)), show (t.Epoch != c.Epoch) = false by simp [he]]; exact ⟨_, rfl, rfl⟩
 | true =>
 by_cases hs : t.Seq = c.Out.Ask.Seq
 case neg => rw [if_pos (Or.inr (Or.inr hs)), show (t.Epoch != c.Epoch) = false by simp [he], show (t.Seq != c.Out.Ask.Seq) = true by simp [hs]]; exact ⟨_, rfl, rfl⟩
 rw [if_neg (by simp [he, hs]), show (t.Epoch != c.Epoch) = false by simp [he], show (t.Seq != c.Out.Ask.Seq) = false by simp [hs]]
 simp only [cond_false, cond_true, Bool.not_true]
 have e0 : (⟨{ c with Out := ⟨false, ⟨0, 0, 0, 0, [], 0, 0, []⟩, 0, 0⟩ }, []⟩ : Tclient_work) = Wk { c with Out := noOut } := rfl
 simp only [e0]
 unfold tellS
 rcases A hi with ⟨k, f⟩ | ⟨⟨k2, k5⟩, f1, f6⟩
 ·have nm := (named_ok { c with Out := noOut } rfl c.Out.Ask.Name t.File (by show c.Names.length < 1000; rw [S.names]; omega)).2
  rw [file_none (show c.Out.Ask.File < 1 by omega), some_bind, if_pos k, beq_of k]
  simp only [alt_inr, cond_true]
  by_cases er : t.Err = 0
  ·rw [if_pos er, beq_of er, nm]; exact ⟨_, rfl, rfl⟩
  ·rw [if_neg er, beq_ne er]; exact ⟨_, rfl, rfl⟩
 ·have hx := fileAt_some S.files f1 f6
  have hm := fileAt_mem S.files f1 f6
  have hf : fileAt { c with Out := noOut } c.Out.Ask.File = fileAt c c.Out.Ask.File := rfl
  rw [(file_ok (c := { c with Out := noOut }) S.files f1 f6 _).2.2, some_bind, if_neg (show ¬ c.Out.Ask.Kind = 1 by omega), beq_ne (show ¬ c.Out.Ask.Kind = 1 by omega)]
  simp only [alt_inl, cond_false, hx, some_bind, short_60, hf, Done_ok _ _ (S.dirty _ hm) (S.body _ hm)]
  by_cases q2 : c.Out.Ask.Kind = 2
  ·rw [if_pos q2, beq_of q2]
   simp only [cond_true]
   by_cases er : t.Err = 0
   ·rw [beq_of er]
    by_cases hn : c.Now < clock_Add c.Out.First 49
    ·rw [decide_eq_true hn]
     by_cases hmo : t.Mode = 0
     ·rw [if_neg (by simp [hmo]), show (t.Mode != 0) = false by simp [hmo]]; exact ⟨_, rfl, rfl⟩
     ·rw [if_pos ⟨er, hn, hmo⟩, show (t.Mode != 0) = true by simp [hmo]]; exact ⟨_, rfl, rfl⟩
    ·rw [decide_eq_false hn, if_neg (fun h => hn h.2.1)]; exact ⟨_, rfl, rfl⟩
   ·rw [beq_ne er, if_neg (fun h => er h.1)]; exact ⟨_, rfl, rfl⟩
  rw [if_neg q2, beq_ne q2]
  simp only [cond_false]
  by_cases q3 : c.Out.Ask.Kind = 3
  ·rw [if_pos q3, beq_of q3]
   by_cases er : t.Err = 0
   ·rw [if_pos er, beq_of er]; exact ⟨_, rfl, rfl⟩
   ·rw [if_neg er, beq_ne er]; exact ⟨_, rfl, rfl⟩
  rw [if_neg q3, beq_ne q3]
  simp only [cond_false]
  by_cases q4 : c.Out.Ask.Kind = 4
  ·rw [if_pos q4, beq_of q4]
   simp only [cond_true, len_gtz]
   cases hl : (fileAt c c.Out.Ask.File).Lost with
   | true => exact ⟨_, rfl, by simp [eD, setF, noOut]⟩
   | false =>
    by_cases er : t.Err = 0
    ·rw [beq_of er, decide_eq_true er]; exact ⟨_, rfl, rfl⟩
    ·rw [beq_ne er, decide_eq_false er]; exact ⟨_, rfl, by simp [eD, setF, noOut]⟩
  rw [if_neg q4, beq_ne q4]
  simp only [cond_false]
  have q5 : c.Out.Ask.Kind = 5 := by omega
  rw [beq_of q5]
  by_cases er : t.Err = 0
  ·rw [if_pos er, beq_of er]
   have hn6 := S.names
   rw [wi64_of (show -9223372036854775808 ≤ c.Out.Ask.File - 1 by omega) (by omega), inR_of (by omega) (by omega), List.getElem?_eq_getElem (show (c.Out.Ask.File - 1).toNat < c.Names.length by omega)]
   exact ⟨_, rfl, rfl⟩
  ·rw [if_neg er, beq_ne er]; exact ⟨_, rfl, rfl⟩
theorem recall_file {t : TTell} (h : msg_MayTell t = true) (k : t.Kind = 2) : 1 ≤ t.File ∧ t.File ≤ 6 := by
 unfold msg_MayTell msg_MayTell_t at h
 simp only [val_ite, val_ret, msg_from_eq, k] at h
 cases h1 : rng 1 3 (2 : Int) <;> rw [h1] at h
 ·cases h
 cases h2 : rng 1 3 t.To <;> rw [h2] at h
 ·cases h
 cases h3 : rng 0 1073741824 t.Epoch <;> rw [h3] at h
 ·cases h
 simp only [Bool.not_true, cond_false, show ((2 : Int) == 2) = true from rfl, cond_true] at h
 cases h4 : TTell.eqb t ⟨2, t.To, t.Epoch, 0, 0, t.File, 0, 0, []⟩ <;> rw [h4] at h
 ·cases h
 exact rng_iff.1 h
theorem take_may {b : List UInt8} (h : (takeTell b).2 = true) : msg_MayTell (takeTell b).1 = true ∧ b = putTell (takeTell b).1 := by
 obtain ⟨x, r, _, hz, hm⟩ := takeTell_true h
 have := takeTell_put hm
 rw [← hz] at this
 rw [this]
 exact ⟨hm, hz⟩
theorem Comes_ok {c : TClient} (S : Shape (lapseS c)) (A : c.Out.Is = true → askShape c.Out.Ask) (b : List UInt8) (hb : b.length ≤ lim) : client_Comes fuel c b = some (comesS c b) := by
 have hl : c.Files.length < 1000 := by have := S.files; unfold lapseS at this; simp at this; omega
 unfold client_Comes client_Comes_t comesS comeS hearS
 simp only [get_opt, get_ite, get_ret, get_fail, get_altT, of_ok c hl, some_bind, msg_TakeTell_ok b hb]
 have hid : (lapseS c).ID = c.ID := rfl
 rw [hid]
 cases ht : (takeTell b).2 with
 | false => rw [if_pos (Or.inl rfl)]; rfl
 | true =>
  by_cases hto : (takeTell b).1.To = c.ID
  case neg => rw [if_pos (Or.inr hto), show ((takeTell b).1.To != c.ID) = true by simp [hto]]; rfl
  rw [if_neg (by simp [hto]), show ((takeTell b).1.To != c.ID) = false by simp [hto]]
  simp only [Bool.not_true, cond_false]
  obtain ⟨hm, _⟩ := take_may ht
  generalize (takeTell b).1 = t at hm
  have hk := (mayTell_of hm).1
  by_cases k3 : t.Kind = 3
  ·rw [if_pos k3, beq_of k3, cond_true]
   obtain ⟨s, e, hs⟩ := epoch_ok (c := lapseS c) (by unfold lapseS; simp; exact hl) t
   rw [e, some_bind, ← hs]
   cases s <;> rfl
  rw [if_neg k3, beq_ne k3, cond_false]
  by_cases k2 : t.Kind = 2
  ·rw [if_pos k2, beq_of k2, cond_true]
   obtain ⟨f1, f6⟩ := recall_file hm k2
   obtain ⟨s, e, hs⟩ := called_ok S t f1 f6
   rw [e, some_bind, ← hs]
   rcases s with s | s | s | s <;> rfl
  rw [if_neg k2, beq_ne k2, beq_of (show t.Kind = 1 by omega), cond_false, cond_true]
  obtain ⟨s, e, hs⟩ := done_ok S A t
  rw [e, some_bind, ← hs]
  cases s <;> rfl
theorem early_lt {c : TClient} {i : Nat} (h : c.Files.findIdx? (earlyF c) = some i) : i < c.Files.length := (List.findIdx?_eq_some_iff_getElem.1 h).1
open Go
structure FileOk (now : Int) (f : TCache) : Prop where
 mode : 0 ≤ f.Mode ∧ f.Mode ≤ 2
 till : 0 ≤ f.Until ∧ f.Until ≤ 9223372036854775807
 soon : f.Mode ≠ 0 → f.Until ≤ now + 49
 few : f.Dirty.length ≤ 5
 may : ∀ w ∈ f.Dirty, file_May w = true
 body : f.Body.length ≤ 24
 ver : 0 ≤ f.Ver
 free : f.Mode = 0 → f.Dirty = []
structure CliOk (n : Int) (c : TClient) : Prop where
 files : c.Files.length = 6
 names : c.Names.length = 6
 file : ∀ f ∈ c.Files, FileOk c.Now f
 name : ∀ s ∈ c.Names, s.length ≤ 8
 id : 1 ≤ c.ID ∧ c.ID ≤ 3
 now : 0 ≤ c.Now ∧ c.Now ≤ 9223372036854775807
 epoch : 0 ≤ c.Epoch ∧ c.Epoch ≤ 1073741824
 seq : 0 ≤ c.Seq ∧ c.Seq ≤ n
 none : c.Out.Is = false → c.Out = noOut
 ask : c.Out.Is = true → mayAsk c.Out.Ask = true
 sure : c.Out.Is = true → c.Out.Ask.From = c.ID ∧ c.Out.Ask.Epoch = c.Epoch ∧ c.Out.Ask.Seq = c.Seq
 first : c.Out.Is = true → (0 ≤ c.Out.First ∧ c.Out.First ≤ c.Now) ∧ 0 ≤ c.Out.Last ∧ c.Out.Last ≤ c.Now
theorem CliOk.shape {n : Int} {c : TClient} (h : CliOk n c) : Shape c where
 files := h.files
 names := h.names
 out := h.none
 dirty := fun f hf => Nat.le_trans (h.file f hf).few (by omega)
 body := fun f hf => (h.file f hf).body
 asked := by
  cases hi : c.Out.Is with
  | true => exact Nat.le_trans (mayAsk_of (h.ask hi)).2.2.2.2.2.2.2.1 (by omega)
  | false => rw [h.none hi]; exact Nat.zero_le _
 until_ := fun f hf => (h.file f hf).till
 name := h.name
theorem CliOk.shaped {n : Int} {c : TClient} (h : CliOk n c) (i : c.Out.Is = true) : askShape c.Out.Ask := askShape_of (h.ask i)
theorem CliOk.more {n m : Int} {c : TClient} (h : CliOk n c) (hm : n ≤ m) : CliOk m c := { h with seq := ⟨h.seq.1, Int.le_trans h.seq.2 hm⟩ }
theorem FileOk.later {a b : Int} {f : TCache} (h : FileOk a f) (hab : a ≤ b) : FileOk b f := { h with soon := fun m => Int.le_trans (h.soon m) (by omega) }
theorem reset_ok (f : TCache) (now : Int) : FileOk now (cache_Reset f) := by
 unfold cache_Reset cache_Reset_t
 simp only [val_ite, val_ret]
 cases f.Lost <;> exact ⟨⟨Int.le_refl _, by simp⟩, ⟨Int.le_refl _, by simp⟩, fun h => absurd rfl h, Nat.zero_le _, fun w hw => (by simp at hw), Nat.zero_le _, Int.le_refl _, fun _ => rfl⟩
theorem lapse_ok {f : TCache} {now : Int} (h : FileOk now f) : FileOk now (cache_Lapse f now) := by
 unfold cache_Lapse cache_Lapse_t
 simp only [val_ite, val_ret]
 cases f.Mode == 0
 ·cases cache_Valid f now != 0
  ·exact reset_ok f now
  ·exact h
 ·exact h
theorem cli_lapse {n : Int} {c : TClient} (h : CliOk n c) : CliOk n (lapseS c) :=
 {h with
  files := by unfold lapseS; simp [h.files]
  file := fun f hf => by
   unfold lapseS at hf
   simp only [List.mem_map] at hf
   obtain ⟨g, hg, e⟩ := hf
   rw [← e]
   exact lapse_ok (h.file g hg) }
theorem cli_setF {n : Int} {c : TClient} (h : CliOk n c) (k : Int) {x : TCache} (hx : FileOk c.Now x) : CliOk n (setF c k x) :=
 {h with
  files := by unfold setF; simp [h.files]
  file := fun f hf => by rcases List.mem_or_eq_of_mem_set hf with g | g; exact h.file f g; rw [g]; exact hx }
theorem cli_file {n : Int} {c : TClient} (h : CliOk n c) {k : Int} (h1 : 1 ≤ k) (h6 : k ≤ 6) : FileOk c.Now (fileAt c k) := h.file _ (fileAt_mem h.files h1 h6)
def goodAsk (a : TAsk) : Bool := rng 1 5 a.Kind && (wantOk a && sameAsk a (want a))
theorem stamp_may {n : Int} {c : TClient} (h : CliOk n c) (hn : n < 1073741824) {a : TAsk} (g : goodAsk a = true) : mayAsk (stamp c a) = true := by
 have e : wi64 (c.Seq + 1) = c.Seq + 1 := wi64_of (by have := h.seq; omega) (by have := h.seq; omega)
 unfold goodAsk at g
 simp only [Bool.and_eq_true] at g
 obtain ⟨g1, g2, g3⟩ := g
 unfold mayAsk
 simp only [Bool.and_eq_true]
 refine ⟨g1, rng_iff.2 h.id, rng_iff.2 h.epoch, rng_iff.2 (by unfold stamp; simp only; rw [e]; have := h.seq; omega), ?_, ?_⟩
 ·exact g2
 ·rw [sameAsk_iff] at g3 ⊢
  unfold want at g3 ⊢
  unfold stamp
  unfold wantW at g3 ⊢
  simp only at g3 ⊢
  cases k1 : a.Kind == 1 <;> cases k2 : a.Kind == 2 <;> cases k3 : a.Kind == 3 <;> cases k4 : a.Kind == 4 <;> rw [k1, k2, k3, k4] at g3 <;> simp only [cond_true, cond_false, Bool.or_true, Bool.or_false, Bool.true_or, Bool.false_or] at g3 ⊢ <;> rw [g3]
theorem cli_ask {n : Int} {c : TClient} (h : CliOk n c) (hn : n < 1073741824) {a : TAsk} (g : goodAsk a = true) : CliOk (n + 1) (askS c a).1 := by
 have hs := h.seq
 have e : wi64 (c.Seq + 1) = c.Seq + 1 := wi64_of (by omega) (by omega)
 exact { h with
  seq := by unfold askS; simp only; rw [e]; omega
  none := fun x => by cases x
  ask := fun _ => stamp_may h hn g
  sure := fun _ => ⟨rfl, rfl, rfl⟩
  first := fun _ => ⟨⟨h.now.1, Int.le_refl _⟩, h.now.1, Int.le_refl _⟩ }
structure Grow (n : Int) (c c' : TClient) (l : List TAsk) : Prop where
 ok : CliOk (n + 1) c'
 now : c'.Now = c.Now
 id : c'.ID = c.ID
 asks : (l = [] ∧ c'.Seq = c.Seq) ∨ (∃ a, l = [a] ∧ c'.Out.Is = true ∧ c'.Out.Ask = a ∧ c.Seq ≤ c'.Seq ∧ c'.Seq ≤ c.Seq + 1)
theorem grow_say {n : Int} {c : TClient} (h : CliOk n c) : Grow n c c [] := ⟨h.more (by omega), rfl, rfl, Or.inl ⟨rfl, rfl⟩⟩
theorem grow_ask {n : Int} {c d : TClient} (h : CliOk n d) (hn : n < 1073741824) (h1 : d.Now = c.Now) (h2 : d.ID = c.ID) (h3 : d.Seq = c.Seq) {a : TAsk} (g : goodAsk a = true) : Grow n c (askS d a).1 (askS d a).2.2 := by
 have hs := h.seq
 have e : wi64 (d.Seq + 1) = d.Seq + 1 := wi64_of (by omega) (by omega)
 refine ⟨cli_ask h hn g, h1, h2, Or.inr ⟨_, rfl, rfl, rfl, ?_, ?_⟩⟩ <;> (unfold askS; simp only; rw [e]; omega)
theorem noCache_ok (now : Int) (b : Bool) : FileOk now { noCache with Lost := b } :=
 ⟨⟨Int.le_refl _, by simp [noCache]⟩, ⟨Int.le_refl _, by simp [noCache]⟩, fun h => absurd rfl h, Nat.zero_le _, fun w hw => (by simp [noCache] at hw), Nat.zero_le _, Int.le_refl _, fun _ => rfl⟩
theorem good_writes {k : Int} {ws : List TWrite} (hk : k = 4 ∨ k = 3 ∧ ws ≠ []) {f : Int} (h1 : 1 ≤ f) (h6 : f ≤ 6) (hl : ws.length ≤ 5) (hw : ∀ w ∈ ws, file_May w = true) : goodAsk ⟨k, 0, 0, 0, [], f, 0, ws⟩ = true := by
 have hall : ws.all file_May = true := List.all_eq_true.2 hw
 have hr : rng 1 6 f = true := rng_iff.2 ⟨h1, h6⟩
 unfold goodAsk wantOk want wantW
 simp only [Bool.and_eq_true]
 rcases hk with hk | ⟨hk, hne⟩
 ·subst hk
  refine ⟨rfl, ?_, ?_⟩
  ·simp only [show ((4 : Int) == 1) = false from rfl, show ((4 : Int) == 2) = false from rfl, show ((4 : Int) == 3) = false from rfl, show ((4 : Int) == 4) = true from rfl, cond_false, cond_true, Bool.or_true, Bool.false_or, hall, hr, Bool.and_true, Bool.true_and]
   exact decide_eq_true (by omega)
  ·exact sameAsk_refl _
 ·subst hk
  refine ⟨rfl, ?_, ?_⟩
  ·simp only [show ((3 : Int) == 1) = false from rfl, show ((3 : Int) == 2) = false from rfl, show ((3 : Int) == 3) = true from rfl, show ((3 : Int) == 4) = false from rfl, cond_false, cond_true, Bool.or_false, Bool.true_or, hall, hr, Bool.and_true, Bool.and_eq_true]
   refine ⟨decide_eq_true (by omega), ?_⟩
   rw [len_gtz, decide_eq_false hne]; rfl
  ·exact sameAsk_refl _
theorem good_lease {f m : Int} (h1 : 1 ≤ f) (h6 : f ≤ 6) (hm : m = 1 ∨ m = 2) : goodAsk ⟨2, 0, 0, 0, [], f, m, []⟩ = true := by
 have hr : rng 1 6 f = true := rng_iff.2 ⟨h1, h6⟩
 unfold goodAsk wantOk want
 simp only [show ((2 : Int) == 1) = false from rfl, show ((2 : Int) == 2) = true from rfl, cond_false, cond_true, hr, Bool.true_and, Bool.and_eq_true]
 rcases hm with hm | hm <;> subst hm <;> exact ⟨rfl, rfl, sameAsk_refl _⟩
theorem good_gone {f : Int} (h1 : 1 ≤ f) (h6 : f ≤ 6) : goodAsk ⟨5, 0, 0, 0, [], f, 0, []⟩ = true := by
 have hr : rng 1 6 f = true := rng_iff.2 ⟨h1, h6⟩
 unfold goodAsk wantOk want wantW
 simp only [show ((5 : Int) == 1) = false from rfl, show ((5 : Int) == 2) = false from rfl, show ((5 : Int) == 3) = false from rfl, show ((5 : Int) == 4) = false from rfl, cond_false, Bool.or_false, hr, Bool.true_and, Bool.and_eq_true]
 exact ⟨rfl, sameAsk_refl _⟩
theorem good_open {s : List UInt8} (h : mayName s = true) : goodAsk ⟨1, 0, 0, 0, s, 0, 0, []⟩ = true := by
 unfold goodAsk wantOk want
 simp only [show ((1 : Int) == 1) = true from rfl, cond_true, h, Bool.true_and, Bool.and_eq_true]
 exact ⟨rfl, sameAsk_refl _⟩
theorem grow_gives {n : Int} {c : TClient} (h : CliOk n c) (hn : n < 1073741824) {f : Int} (h1 : 1 ≤ f) (h6 : f ≤ 6) : Grow n c (givesS c f).1 (givesS c f).2.2 := by
 have hf := cli_file h h1 h6
 obtain ⟨g1, g2, g3, g4⟩ := grow_ask (c := c) h hn rfl rfl rfl (good_writes (k := 4) (Or.inl rfl) h1 h6 hf.few hf.may)
 exact ⟨cli_setF g1 f (noCache_ok _ _), g2, g3, g4⟩
theorem sent_ok {now : Int} {f : TCache} (h : FileOk now f) (m : Int) : FileOk now { f with Sent := m } := ⟨h.mode, h.till, h.soon, h.few, h.may, h.body, h.ver, h.free⟩
theorem grow_flush {n : Int} {c : TClient} (h : CliOk n c) (hn : n < 1073741824) {f : Int} (h1 : 1 ≤ f) (h6 : f ≤ 6) (hd : (fileAt c f).Dirty ≠ []) : Grow n c (flushS c f).1 (flushS c f).2.2 := by
 have hf := cli_file h h1 h6
 exact grow_ask (c := c) (cli_setF h f (sent_ok hf _)) hn rfl rfl rfl (good_writes (k := 3) (Or.inr ⟨rfl, hd⟩) h1 h6 hf.few hf.may)
theorem cli_hits {n : Int} {c : TClient} (h : CliOk n c) (k : Int) : CliOk n { c with Hits := k } := { h with }
theorem valid_2 {f : TCache} {now : Int} (h : cache_Valid f now = 2) : f.Mode = 2 := by
 unfold cache_Valid cache_Valid_t at h
 simp only [val_ite, val_ret] at h
 cases hd : decide (now ≥ f.Until) <;> rw [hd] at h
 ·exact h
 ·cases h
theorem grow_step {n : Int} {c : TClient} (h : CliOk n c) (hn : n < 1073741824) (s : TStep) : Grow n c (stepS c s).1 (stepS c s).2.2 ∧ (c.Out.Is = true → (stepS c s).1.Out = c.Out) := by
 unfold stepS
 split
 ·exact ⟨grow_say h, fun _ => rfl⟩
 rename_i k0
 split
 ·unfold opensS
  split
  ·exact ⟨grow_say h, fun _ => rfl⟩
  rename_i hm
  split
  ·exact ⟨⟨h.more (by omega), rfl, rfl, Or.inl ⟨rfl, rfl⟩⟩, fun _ => rfl⟩
  split
  ·exact ⟨grow_say h, fun _ => rfl⟩
  rename_i hi
  exact ⟨grow_ask h hn rfl rfl rfl (good_open (by simpa using hm)), fun x => absurd x hi⟩
 rename_i k3
 split
 ·exact ⟨grow_say h, fun _ => rfl⟩
 rename_i kf
 have h1 : 1 ≤ s.File := by omega
 have h6 : s.File ≤ 6 := by omega
 have hf := cli_file h h1 h6
 split
 ·exact ⟨grow_say h, fun _ => rfl⟩
 rename_i k5
 split
 ·refine ⟨⟨(cli_setF h s.File (?_ : FileOk c.Now _)).more (by omega), rfl, rfl, Or.inl ⟨rfl, rfl⟩⟩, fun _ => rfl⟩
  exact ⟨hf.mode, hf.till, hf.soon, hf.few, hf.may, hf.body, hf.ver, hf.free⟩
 rename_i kl
 split
 ·unfold readsS
  split
  ·exact ⟨⟨(cli_hits h _).more (by omega), rfl, rfl, Or.inl ⟨rfl, rfl⟩⟩, fun _ => rfl⟩
  split
  ·exact ⟨grow_say h, fun _ => rfl⟩
  rename_i hi
  exact ⟨grow_ask h hn rfl rfl rfl (good_lease h1 h6 (Or.inl rfl)), fun x => absurd x hi⟩
 rename_i k4
 split
 ·rename_i k5'
  unfold writesS
  split
  ·rename_i hw
   have hb := hw.2.2
   unfold bufOk at hb
   simp only [Bool.and_eq_true, decide_eq_true_eq] at hb
   refine ⟨⟨((cli_hits (cli_setF h s.File (?_ : FileOk c.Now _)) _)).more (by omega), rfl, rfl, Or.inl ⟨rfl, rfl⟩⟩, fun _ => rfl⟩
   refine ⟨hf.mode, hf.till, hf.soon, by simp; omega, fun w hw => ?_, hf.body, hf.ver, fun (m : (fileAt c s.File).Mode = 0) => absurd (eq_of_beq hb.1.2) (by rw [m]; decide)⟩
   simp only [List.mem_append, List.mem_singleton] at hw
   rcases hw with hw | hw
   ·exact hf.may w hw
   ·rw [hw]; exact hb.2
  rename_i hw
  split
  ·exact ⟨grow_say h, fun _ => rfl⟩
  rename_i hi
  split
  ·exact ⟨grow_ask h hn rfl rfl rfl (good_lease h1 h6 (Or.inr rfl)), fun x => absurd x hi⟩
  rename_i hv
  have hv : cache_Valid (fileAt c s.File) c.Now = 2 := by simpa using hv
  split
  ·exact ⟨grow_gives h hn h1 h6, fun x => absurd x hi⟩
  rename_i hc
  refine ⟨grow_flush h hn h1 h6 (fun hd => hw ⟨hv, by simpa using hc, ?_⟩), fun x => absurd x hi⟩
  have hm : file_May ⟨s.Off, s.Text⟩ = true := by
   cases hx : file_May ⟨s.Off, s.Text⟩ with
   | true => rfl
   | false => exact absurd ⟨k5', hx⟩ k5
  unfold bufOk
  rw [hd, hm, beq_of (valid_2 hv)]; rfl
 rename_i k5'
 split
 ·unfold syncsS
  split
  ·exact ⟨grow_say h, fun _ => rfl⟩
  split
  ·exact ⟨grow_say h, fun _ => rfl⟩
  rename_i hd
  split
  ·exact ⟨grow_say h, fun _ => rfl⟩
  rename_i hi
  exact ⟨grow_flush h hn h1 h6 hd, fun x => absurd x hi⟩
 rename_i k6
 split
 ·unfold dropsS
  split
  ·exact ⟨grow_say h, fun _ => rfl⟩
  split
  ·exact ⟨grow_say h, fun _ => rfl⟩
  rename_i hi
  exact ⟨grow_gives h hn h1 h6, fun x => absurd x hi⟩
 ·unfold endsS
  split
  ·exact ⟨grow_say h, fun _ => rfl⟩
  rename_i hi
  split
  ·exact ⟨grow_say h, fun _ => rfl⟩
  exact ⟨grow_ask (c := c) (cli_setF h _ (reset_ok _ _)) hn rfl rfl rfl (good_gone h1 h6), fun x => absurd x hi⟩
theorem grow_do {n : Int} {c : TClient} (h : CliOk n c) (hn : n < 1073741824) (s : TStep) : Grow n c (doS c s).1 (doS c s).2.2 ∧ (c.Out.Is = true → (doS c s).1.Out = c.Out) := by
 obtain ⟨⟨g1, g2, g3, g4⟩, g5⟩ := grow_step (cli_lapse h) hn s
 exact ⟨⟨g1, g2, g3, g4⟩, g5⟩
open Go
theorem may_epoch {a : TAsk} (h : mayAsk a = true) {e : Int} (he : 0 ≤ e ∧ e ≤ 1073741824) : mayAsk { a with Epoch := e } = true := by
 unfold mayAsk at h ⊢
 simp only [Bool.and_eq_true] at h ⊢
 obtain ⟨h1, h2, h3, h4, h5, h6⟩ := h
 refine ⟨h1, h2, rng_iff.2 he, h4, h5, ?_⟩
 rw [sameAsk_iff] at h6 ⊢
 unfold want wantW at h6 ⊢
 simp only at h6 ⊢
 cases k1 : a.Kind == 1 <;> cases k2 : a.Kind == 2 <;> cases k3 : a.Kind == 3 <;> cases k4 : a.Kind == 4 <;> rw [k1, k2, k3, k4] at h6 <;> simp only [cond_true, cond_false, Bool.or_true, Bool.or_false, Bool.true_or, Bool.false_or] at h6 ⊢ <;> rw [h6]
theorem grow_again {n : Int} {c d : TClient} (h : CliOk n d) (hi : d.Out.Is = true) (h1 : d.Now = c.Now) (h2 : d.ID = c.ID) (h3 : d.Seq = c.Seq) : Grow n c (againS d).1 (againS d).2 := by
 refine ⟨?_, h1, h2, Or.inr ⟨_, rfl, hi, rfl, by rw [show (againS d).1.Seq = d.Seq from rfl, h3]; omega, by rw [show (againS d).1.Seq = d.Seq from rfl, h3]; omega⟩⟩
 exact { h with
  seq := ⟨h.seq.1, by have := h.seq.2; show d.Seq ≤ n + 1; omega⟩
  none := fun x => by rw [show (againS d).1.Out.Is = d.Out.Is from rfl, hi] at x; cases x
  ask := fun _ => h.ask hi
  sure := fun _ => h.sure hi
  first := fun _ => ⟨(h.first hi).1, h.now.1, Int.le_refl _⟩ }
theorem grow_epoch {n : Int} {c : TClient} (h : CliOk n c) {t : TTell} (ht : 0 ≤ t.Epoch ∧ t.Epoch ≤ 1073741824) : Grow n c (epochS c t).1 (epochS c t).2 := by
 unfold epochS
 split
 ·exact grow_say h
 have hf : ∀ f ∈ c.Files.map cache_Reset, FileOk c.Now f := fun f hf => by
  simp only [List.mem_map] at hf
  obtain ⟨g, _, e⟩ := hf
  rw [← e]
  exact reset_ok g _
 split
 ·rename_i hi
  refine grow_again (c := c) { h with files := by simp [h.files], file := hf, epoch := ht, none := fun x => ?_, ask := fun _ => may_epoch (h.ask hi) ht, sure := fun _ => ⟨(h.sure hi).1, rfl, (h.sure hi).2.2⟩, first := fun _ => h.first hi } hi rfl rfl rfl
  simp only at x; rw [hi] at x; cases x
 ·rename_i hi
  refine ⟨{ h with files := by simp [h.files], file := hf, epoch := ht, seq := ⟨h.seq.1, by have := h.seq.2; show c.Seq ≤ n + 1; omega⟩, ask := fun x => absurd x hi, sure := fun x => absurd x hi, first := fun x => absurd x hi }, rfl, rfl, Or.inl ⟨rfl, rfl⟩⟩
theorem cli_call {n : Int} {c : TClient} (h : CliOk n c) {k : Int} (h1 : 1 ≤ k) (h6 : k ≤ 6) : CliOk n (callF c k) := by
 have hf := cli_file h h1 h6
 exact cli_setF h k ⟨hf.mode, hf.till, hf.soon, hf.few, hf.may, hf.body, hf.ver, hf.free⟩
theorem grow_called {n : Int} {c : TClient} (h : CliOk n c) (hn : n < 1073741824) {t : TTell} (h1 : 1 ≤ t.File) (h6 : t.File ≤ 6) : Grow n c (calledS c t).1 (calledS c t).2 := by
 unfold calledS
 split
 ·exact grow_say h
 split
 ·exact ⟨(cli_call h h1 h6).more (by omega), rfl, rfl, Or.inl ⟨rfl, rfl⟩⟩
 ·obtain ⟨g1, g2, g3, g4⟩ := grow_gives (cli_call h h1 h6) hn h1 h6
  exact ⟨g1, g2, g3, g4⟩
theorem named_len (l : List (List UInt8)) (s : List UInt8) (n : Int) : (namedS l s n).length = l.length := by
 unfold namedS; split <;> simp
theorem named_short {l : List (List UInt8)} {s : List UInt8} (hl : ∀ x ∈ l, x.length ≤ 8) (hs : s.length ≤ 8) (n : Int) : ∀ x ∈ namedS l s n, x.length ≤ 8 := by
 intro x hx
 unfold namedS at hx
 split at hx
 ·exact hl x hx
 ·rcases List.mem_or_eq_of_mem_set hx with g | g
  ·simp only [List.mem_map] at g
   obtain ⟨y, hy, e⟩ := g
   split at e
   ·rw [← e]; simp
   ·rw [← e]; exact hl y hy
  ·rw [g]; exact hs
theorem addI_le {a : Int} (h0 : 0 ≤ a) (h1 : a ≤ 9223372036854775807) : (0 ≤ addI a 49 ∧ addI a 49 ≤ 9223372036854775807) ∧ addI a 49 ≤ a + 49 := by
 unfold addI clock_Add clock_Add_t
 simp only [val_ite, val_ret]
 by_cases ha : a > 0
 ·rw [decide_eq_true ha, wi64_of (show -9223372036854775808 ≤ 9223372036854775807 - a by omega) (by omega)]
  by_cases hb : (49 : Int) > 9223372036854775807 - a
  ·rw [decide_eq_true hb]; simp only [cond_true]; omega
  ·rw [decide_eq_false hb, wi64_of (show -9223372036854775808 ≤ a + 49 by omega) (by omega)]; simp only [cond_true, cond_false]; omega
 ·rw [decide_eq_false ha, wi64_of (show -9223372036854775808 ≤ a + 49 by omega) (by omega)]; simp only [cond_false]; omega
theorem doneC_ok {now : Int} {f : TCache} (h : FileOk now f) {v : Int} (hv : 0 ≤ v) : FileOk now (doneC f v) := by
 unfold doneC
 split
 ·exact h
 ·rename_i hm
  refine ⟨h.mode, h.till, h.soon, ?_, fun w hw => h.may w (List.mem_of_mem_drop hw), allW_len _ _ h.body, hv, fun (m : f.Mode = 0) => by rw [m] at hm; exact absurd hm (by decide)⟩
  have := h.few
  simp only [List.length_drop]; omega
theorem cli_tell {n : Int} {c : TClient} (h : CliOk n c) (hi : c.Out.Is = true) {t : TTell} (ht : msg_MayTell t = true) : CliOk n (tellS { c with Out := noOut } c.Out t) := by
 have d : CliOk n { c with Out := noOut } := { h with none := fun _ => rfl, ask := fun x => (nomatch x), sure := fun x => (nomatch x), first := fun x => (nomatch x) }
 obtain ⟨_, _, _, _, _, hF, hM, hV, hB⟩ := mayTell_of ht
 have hname := (mayAsk_of (h.ask hi)).2.2.2.2.1
 have hfirst := h.first hi
 unfold tellS
 rcases h.shaped hi with ⟨k, f⟩ | ⟨⟨k2, k5⟩, f1, f6⟩
 ·rw [if_pos k]
  split
  ·exact { d with names := by rw [named_len]; exact h.names, name := named_short h.name hname _ }
  ·exact d
 ·rw [if_neg (by omega)]
  have hf : FileOk c.Now (fileAt { c with Out := noOut } c.Out.Ask.File) := cli_file (c := c) h f1 f6
  split
  ·split
   ·rename_i hc
    have hn := h.now
    obtain ⟨g1, g2⟩ := addI_le hfirst.1.1 (by omega)
    exact cli_setF d _ ⟨hM, g1, fun _ => by show addI c.Out.First 49 ≤ c.Now + 49; omega, hf.few, hf.may, hB, hV.1, fun (m : t.Mode = 0) => absurd m hc.2.2⟩
   ·exact d
  split
  ·refine cli_setF d _ ?_
   split
   ·exact doneC_ok hf hV.1
   ·exact reset_ok _ _
  split
  ·exact cli_setF d _ ⟨hf.mode, hf.till, hf.soon, hf.few, hf.may, hf.body, hf.ver, hf.free⟩
  split
  ·refine { d with names := by simp [h.names], name := fun x hx => ?_ }
   rcases List.mem_or_eq_of_mem_set hx with g | g
   ·exact h.name x g
   ·rw [g]; simp
  ·exact d
theorem tell_keeps (c : TClient) (o : TOut) (t : TTell) : (tellS c o t).Now = c.Now ∧ (tellS c o t).ID = c.ID ∧ (tellS c o t).Seq = c.Seq ∧ (tellS c o t).Out = c.Out ∧ (tellS c o t).Epoch = c.Epoch := by
 unfold tellS
 repeat' split
 all_goals exact ⟨rfl, rfl, rfl, rfl, rfl⟩
theorem grow_done {n : Int} {c : TClient} (h : CliOk n c) {t : TTell} (ht : msg_MayTell t = true) : Grow n c (doneS c t) [] := by
 unfold doneS
 split
 ·exact grow_say h
 rename_i hc
 have hi : c.Out.Is = true := by cases hx : c.Out.Is with
  | true => rfl
  | false => exact absurd (Or.inr (Or.inl hx)) hc
 obtain ⟨e1, e2, e3, _, _⟩ := tell_keeps { c with Out := noOut } c.Out t
 exact ⟨(cli_tell h hi ht).more (by omega), e1, e2, Or.inl ⟨rfl, e3⟩⟩
theorem grow_comes {n : Int} {c : TClient} (h : CliOk n c) (hn : n < 1073741824) (b : List UInt8) : Grow n c (comesS c b).1 (comesS c b).2 := by
 have g := cli_lapse h
 unfold comesS comeS
 split
 ·exact ⟨{ g with seq := ⟨g.seq.1, by have := g.seq.2; show c.Seq ≤ n + 1; exact Int.le_trans this (by omega)⟩ }, rfl, rfl, Or.inl ⟨rfl, rfl⟩⟩
 rename_i hb
 have ht : (takeTell b).2 = true := by
  cases hx : (takeTell b).2 with
  | true => rfl
  | false => exact absurd (Or.inl hx) hb
 have hm := (take_may ht).1
 generalize (takeTell b).1 = t at hm
 have key : Grow n (lapseS c) (hearS (lapseS c) t).1 (hearS (lapseS c) t).2 := by
  unfold hearS
  split
  ·exact grow_epoch g (mayTell_of hm).2.2.1
  split
  ·rename_i k2
   obtain ⟨f1, f6⟩ := recall_file hm k2
   exact grow_called g hn f1 f6
  ·exact grow_done g hm
 obtain ⟨k1, k2, k3, k4⟩ := key
 exact ⟨k1, k2, k3, k4⟩
theorem grow_run {n : Int} {c : TClient} (h : CliOk n c) (hn : n < 1073741824) : Grow n c (runS c).1 (runS c).2 ∧ (c.Out.Is = true → (runS c).1.Out.Ask = c.Out.Ask) := by
 have g := cli_lapse h
 have key : Grow n (lapseS c) (rnS (lapseS c)).1 (rnS (lapseS c)).2 ∧ ((lapseS c).Out.Is = true → (rnS (lapseS c)).1.Out.Ask = (lapseS c).Out.Ask) := by
  generalize lapseS c = d at g
  unfold rnS
  split
  ·rename_i hi
   split
   ·exact ⟨grow_again g hi rfl rfl rfl, fun _ => rfl⟩
   ·exact ⟨grow_say g, fun _ => rfl⟩
  rename_i hi
  split
  ·rename_i i hf
   have hlt := early_lt hf
   have h6 := g.files
   exact ⟨grow_gives g hn (by omega) (by omega), fun x => absurd x hi⟩
  ·exact ⟨grow_say g, fun _ => rfl⟩
 obtain ⟨⟨k1, k2, k3, k4⟩, k5⟩ := key
 exact ⟨⟨k1, k2, k3, k4⟩, k5⟩
theorem cli_time {n : Int} {c : TClient} (h : CliOk n c) {t : Int} (ht : c.Now ≤ t) (h2 : t ≤ 9223372036854775807) : CliOk n { c with Now := t } :=
 {h with
  file := fun f hf => (h.file f hf).later ht
  now := ⟨Int.le_trans h.now.1 ht, h2⟩
  first := fun i => by have := h.first i; show (0 ≤ c.Out.First ∧ c.Out.First ≤ t) ∧ 0 ≤ c.Out.Last ∧ c.Out.Last ≤ t; omega }
theorem new_ok {i : Int} (h1 : 1 ≤ i) (h3 : i ≤ 3) : CliOk 0 (client_New i) := by
 have hf : ∀ f ∈ (client_New i).Files, f = noCache := fun f hf => by
  unfold client_New at hf
  simp only [List.mem_cons, List.not_mem_nil, or_false] at hf
  rcases hf with h | h | h | h | h | h <;> exact h
 have hs : ∀ s ∈ (client_New i).Names, s = [] := fun s hs => by
  unfold client_New at hs
  simp only [List.mem_cons, List.not_mem_nil, or_false] at hs
  rcases hs with h | h | h | h | h | h <;> exact h
 exact ⟨rfl, rfl, fun f h => by rw [hf f h]; exact noCache_ok _ false, fun s h => by rw [hs s h]; simp, ⟨h1, h3⟩, ⟨Int.le_refl _, by simp [client_New]⟩, ⟨Int.le_refl _, by simp [client_New]⟩, ⟨Int.le_refl _, Int.le_refl _⟩, fun _ => rfl, fun x => (nomatch x), fun x => (nomatch x), fun x => (nomatch x)⟩
end Go.Proofs.YthabbcjjecpbmaaGreat.N
