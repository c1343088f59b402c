/- What lasts: which states may be, by the document; the sectors. The sectors: by the document; alike; what is unlike. The plain law of ImageFixed. Which sectors a state is: by the program. Which sectors a state is: by the program (2), by the document. Which sectors a state is: by the document (2). Alike: marks, states, sectors to be written. The plain law of ImageBack. -/
import Derived.Test.YthefogjlenmgfaaSeat5
import Derived.KernelRfl
set_option linter.unusedVariables false
set_option linter.unusedSimpArgs false
namespace Go.Proofs.Ythefogjlenmgfaa.N
open Go

theorem MayState_ok (s : TState) (hn : ∀ f ∈ s.Files, f.Name.length < 4294967296) : ∃ b, ref7_MayState fuel s = some b ∧ (b = true ↔ Good 1073741824 s) := by
  unfold ref7_MayState ref7_MayState_k
  by_cases h1 : s.Files.length ≠ 6
  · rw [show ((s.Files.length : Int) != 6) = true by simp; omega]
    exact ⟨_, rfl, ⟨fun h => (by cases h), fun h => absurd h.nf h1⟩⟩
  have h1 : s.Files.length = 6 := Decidable.of_not_not h1
  rw [show ((s.Files.length : Int) != 6) = false by simp; omega]
  by_cases h2 : s.Marks.length ≠ 3
  · rw [show ((s.Marks.length : Int) != 3) = true by simp; omega]
    exact ⟨_, rfl, ⟨fun h => (by cases h), fun h => absurd h.nm h2⟩⟩
  have h2 : s.Marks.length = 3 := Decidable.of_not_not h2
  rw [show ((s.Marks.length : Int) != 3) = false by simp; omega]
  cases he : ref7_num s.Epoch with
  | false =>
    refine ⟨_, rfl, ⟨fun h => (by cases h), fun h => ?_⟩⟩
    rw [(num_iff _).2 ⟨h.e0, h.e1⟩] at he
    cases he
  | true =>
    have he' := (num_iff _).1 he
    simp only [cond_false, Bool.not_true]
    unfold ref7_MayState_l0
    obtain ⟨x, e, hx⟩ := iter_inv (step := ref7_MayState_s0 fuel s) (fun k v => ∃ i : Nat, v = (i : Int) ∧ i + k = s.Files.length ∧ ∀ j, j < i → (∀ f, s.Files[j]? = some f → fileOk f) ∧ ahead s.Files j)
      (fun r => Sum.elim (fun _ => ¬ Good 1073741824 s) (fun _ => (∀ f ∈ s.Files, fileOk f) ∧ once s.Files) r) (fun k v hI => by
      obtain ⟨i, rfl, hk, ha⟩ := hI
      simp only [ref7_MayState_s0, ref7_MayState_s0k]
      by_cases hlt : i < s.Files.length
      · have hat : s.Files[i]? = some s.Files[i] := List.getElem?_eq_getElem hlt
        have hmem : s.Files[i] ∈ s.Files := List.getElem_mem hlt
        generalize hf : s.Files[i] = f at hat hmem
        rw [lt_dec hlt, inR_nat hlt, Int.toNat_natCast, hat]
        simp only [cond_true, some_bind]
        have hgo : fileOk f → ahead s.Files i → ∃ o, (some (Sum.inl (wi64 ((i : Int) + 1))) : Option (Int ⊕ (TFile ⊕ Unit))) = some o ∧ Sum.elim (fun v' => ∃ k', k' < k ∧ ∃ i : Nat, v' = (i : Int) ∧ i + k' = s.Files.length ∧ ∀ j, j < i → (∀ f, s.Files[j]? = some f → fileOk f) ∧ ahead s.Files j) (fun r => Sum.elim (fun _ => ¬ Good 1073741824 s) (fun _ => (∀ f ∈ s.Files, fileOk f) ∧ once s.Files) r) o := by
          intro hfo hah
          rw [wi64_succ (by omega)]
          refine ⟨_, rfl, k - 1, by omega, i + 1, rfl, by omega, fun j hj => ?_⟩
          by_cases hji : j = i
          · subst hji
            refine ⟨fun g hg => ?_, hah⟩
            rw [hat] at hg
            cases hg
            exact hfo
          · exact ha j (by omega)
        cases hz : TFile.eqb f (TFile.mk [] 0 []) with
        | true =>
          have hz' := (file_eqb _ _).1 hz
          exact hgo (.inl hz') (fun j g h hj hg hh he => by rw [hat] at hg; cases hg; rw [hz'])
        | false =>
          have hz' : f ≠ noFile := fun h => by rw [h] at hz; exact absurd hz (by decide)
          simp only [cond_false]
          obtain ⟨r, er, hr⟩ := Find_ok s.Files f.Name (by omega) (hn f hmem)
          rw [er, some_bind, ref7_MayName_ok _ (hn f hmem), some_bind]
          have hno : ¬ fileOk f → ¬ Good 1073741824 s := fun h hg => h (hg.fs f hmem)
          cases hm : mayName f.Name with
          | false => exact ⟨_, rfl, hno fun h => by
              rcases h with h | ⟨h, _⟩
              · exact hz' h
              · rw [hm] at h; cases h⟩
          | true =>
            have hne : f.Name ≠ [] := fun h => by have := (mayName_iff hm).1; rw [h] at this; simp at this
            simp only [Bool.not_true, cond_false]
            have hfd : ∃ (a : Nat) (g : TFile), r.1 = (a : Int) + 1 ∧ s.Files[a]? = some g ∧ g.Name = f.Name ∧ a ≤ i ∧ ∀ (j : Nat) g, j < a → s.Files[j]? = some g → g.Name ≠ f.Name := by
              rcases hr with ⟨_, _, a, g, h3, h4, h5, h6⟩ | ⟨_, h3⟩
              · refine ⟨a, g, h3, h4, h5, ?_, h6⟩
                rcases Nat.lt_or_ge i a with h | h
                · exact absurd rfl (h6 i f h hat)
                · exact h
              · exact absurd rfl (h3 hm i f hat)
            obtain ⟨a, g, h3, h4, h5, h6, h7⟩ := hfd
            rw [h3, wi64_succ (show i < 4294967296 by omega)]
            by_cases hai : a = i
            · subst hai
              rw [show (((a : Int) + 1) != ((a + 1 : Nat) : Int)) = false by simp]
              simp only [cond_false]
              by_cases hv : f.Ver < 1
              · rw [decide_eq_true hv]
                exact ⟨_, rfl, hno fun h => by
                  have := (h.some hne).2
                  omega⟩
              · rw [decide_eq_false hv]
                simp only [cond_false]
                cases hv2 : ref7_num f.Ver with
                | false =>
                  exact ⟨_, rfl, hno fun h => by
                    rw [(num_iff _).2 h.ver] at hv2
                    cases hv2⟩
                | true =>
                  have hv2' := (num_iff _).1 hv2
                  simp only [Bool.not_true, cond_false]
                  by_cases hb : (f.Body.length : Int) > 24
                  · rw [decide_eq_true hb]
                    exact ⟨_, rfl, hno fun h => by
                      have := h.body
                      omega⟩
                  · rw [decide_eq_false hb]
                    simp only [cond_false]
                    have := hgo (.inr ⟨hm, by omega, hv2'.2, by omega⟩) (fun j x y hj hx hy he => by rw [hat] at hx; cases hx; exact absurd he (h7 j y hj hy))
                    rw [wi64_succ (show a < 4294967296 by omega)] at this
                    exact this
            · rw [show (((a : Int) + 1) != ((i + 1 : Nat) : Int)) = true by simp; omega]
              refine ⟨_, rfl, fun hg => hne ((once_iff _).1 hg.on i a f g (by omega) hat h4 h5)⟩
      · obtain rfl : i = s.Files.length := by omega
        rw [ge_dec]
        refine ⟨_, rfl, fun f hf => ?_, (once_iff _).2 fun j => ?_⟩
        · obtain ⟨j, hj⟩ := List.mem_iff_getElem?.1 hf
          exact (ha j (at_of hj)).1 f hj
        · by_cases hj : j < s.Files.length
          · exact (ha j hj).2
          · intro a f g _ hf
            exact absurd (at_of hf) hj) s.Files.length (0 : Int) fuel ⟨0, rfl, by omega, fun j h => by omega⟩ (fuel_gt (by omega))
    rw [e, some_bind]
    cases x with
    | inl f => exact ⟨false, rfl, ⟨fun h => (by cases h), fun h => absurd h hx⟩⟩
    | inr f =>
      simp only [alt_inr]
      unfold ref7_MayState_l1
      obtain ⟨y, e2, hy⟩ := iter_inv (step := ref7_MayState_s1 s) (fun k v => ∃ i : Nat, v = (i : Int) ∧ i + k = s.Marks.length ∧ ∀ j, j < i → ∀ f, s.Marks[j]? = some f → markOk 1073741824 f)
        (fun r => Sum.elim (fun _ => ¬ Good 1073741824 s) (fun _ => (∀ f ∈ s.Marks, markOk 1073741824 f)) r) (fun k v hI => by
        obtain ⟨i, rfl, hk, ha⟩ := hI
        simp only [ref7_MayState_s1, ref7_MayState_s1k]
        by_cases hlt : i < s.Marks.length
        · have hat : s.Marks[i]? = some s.Marks[i] := List.getElem?_eq_getElem hlt
          have hmem : s.Marks[i] ∈ s.Marks := List.getElem_mem hlt
          generalize hf : s.Marks[i] = m at hat hmem
          rw [lt_dec hlt, inR_nat hlt, Int.toNat_natCast, hat]
          simp only [cond_true, some_bind]
          have hno : ¬ markOk 1073741824 m → ¬ Good 1073741824 s := fun h hg => h (hg.ms m hmem)
          have n1 := num_iff m.Seq
          have n2 := num_iff m.Ver
          cases ha1 : ref7_num m.Seq with
          | false => exact ⟨_, rfl, hno fun h => by rw [n1.2 ⟨h.1, h.2.1⟩] at ha1; cases ha1⟩
          | true =>
            simp only [Bool.not_true, cond_false]
            by_cases c1 : m.Err < 0
            · rw [decide_eq_true c1]; exact ⟨_, rfl, hno fun h => by have := h.2.2.1; omega⟩
            rw [decide_eq_false c1]
            by_cases c2 : m.Err > 3
            · rw [decide_eq_true c2]; exact ⟨_, rfl, hno fun h => by have := h.2.2.2.1; omega⟩
            rw [decide_eq_false c2]
            by_cases c3 : m.File < 0
            · rw [decide_eq_true c3]; exact ⟨_, rfl, hno fun h => by have := h.2.2.2.2.1; omega⟩
            rw [decide_eq_false c3]
            by_cases c4 : m.File > 6
            · rw [decide_eq_true c4]; exact ⟨_, rfl, hno fun h => by have := h.2.2.2.2.2.1; omega⟩
            rw [decide_eq_false c4]
            simp only [cond_false]
            cases ha2 : ref7_num m.Ver with
            | false => exact ⟨_, rfl, hno fun h => by rw [n2.2 h.2.2.2.2.2.2] at ha2; cases ha2⟩
            | true =>
              simp only [Bool.not_true, cond_false]
              rw [wi64_succ (by omega)]
              refine ⟨_, rfl, k - 1, by omega, i + 1, rfl, by omega, fun j hj f hfj => ?_⟩
              by_cases hji : j = i
              · subst hji
                rw [hat] at hfj
                cases hfj
                exact ⟨(n1.1 ha1).1, (n1.1 ha1).2, by omega, by omega, by omega, by omega, n2.1 ha2⟩
              · exact ha j (by omega) f hfj
        · obtain rfl : i = s.Marks.length := by omega
          rw [ge_dec]
          refine ⟨_, rfl, fun f hf => ?_⟩
          obtain ⟨j, hj⟩ := List.mem_iff_getElem?.1 hf
          exact ha j (at_of hj) f hj) s.Marks.length (0 : Int) fuel ⟨0, rfl, by omega, fun j h => by omega⟩ (fuel_gt (by omega))
      rw [e2, some_bind]
      cases y with
      | inl m => exact ⟨false, rfl, ⟨fun h => (by cases h), fun h => absurd h hy⟩⟩
      | inr m => exact ⟨true, rfl, ⟨fun _ => ⟨h1, h2, he'.1, he'.2, hx.1, hx.2, hy⟩, fun _ => rfl⟩⟩

/-! The bytes -/
def padT (n : Nat) (s : List UInt8) : List UInt8 := txt s ++ List.replicate (n - s.length) 0
def encM (m : TMark) : List UInt8 := be 4 m.Seq ++ (be 1 m.Err ++ (be 1 m.File ++ be 4 m.Ver))
def encF (f : TFile) : List UInt8 := padT 8 f.Name ++ (be 4 f.Ver ++ padT 24 f.Body)
def enc (s : TState) : List UInt8 := be 4 s.Epoch ++ ((s.Marks.map encM).flatten ++ (s.Files.map encF).flatten)
def img (s : TState) : List (List UInt8) := chunkL (enc s ++ List.replicate 26 0)

theorem padT_len {n : Nat} {s : List UInt8} (h : s.length ≤ n) : (padT n s).length = n + 1 := by
  unfold padT
  rw [List.length_append, txt_len, List.length_replicate]; omega
theorem encM_len (m : TMark) : (encM m).length = 10 := by
  unfold encM; simp only [List.length_append, be_len]
theorem encF_len {f : TFile} (h : fileOk f) : (encF f).length = 38 := by
  unfold encF; simp only [List.length_append, be_len, padT_len h.name, padT_len h.body]
theorem flat_len {α : Type} (g : α → List UInt8) (n : Nat) : ∀ l : List α, (∀ x ∈ l, (g x).length = n) → ((l.map g).flatten).length = n * l.length
  | [], _ => rfl
  | x :: r, h => by
    rw [List.map_cons, List.flatten_cons, List.length_append, h x (List.mem_cons_self ..), flat_len g n r (fun y hy => h y (List.mem_cons_of_mem _ hy)), List.length_cons, Nat.mul_add]
    omega
theorem enc_len {B : Int} {s : TState} (h : Good B s) : (enc s).length = 262 := by
  unfold enc
  rw [List.length_append, List.length_append, be_len, flat_len encM 10 _ (fun m _ => encM_len m), flat_len encF 38 _ (fun f hf => encF_len (h.fs f hf)), h.nm, h.nf]

theorem flat_step {α : Type} (g : α → List UInt8) (l : List α) (i : Nat) (h : i < l.length) : ((l.take (i + 1)).map g).flatten = ((l.take i).map g).flatten ++ g l[i] := by
  rw [List.take_add_one, List.getElem?_eq_getElem h]
  simp only [Option.toList, List.map_append, List.map_cons, List.map_nil, List.flatten_append, List.flatten_cons, List.flatten_nil, List.append_nil]

theorem put_mark (b : List UInt8) (m : TMark) (h : b.length ≤ 1000) : (((bits_Put fuel b m.Seq 4)).bind fun r_2 =>
      ((bits_Put fuel r_2 m.Err 1)).bind fun r_3 =>
      ((bits_Put fuel r_3 m.File 1)).bind fun r_4 => bits_Put fuel r_4 m.Ver 4) = some (b ++ encM m) := by
  rw [put4 _ _ (by rw [lim_eq]; omega), some_bind, put1 _ _ (by rw [lim_eq]; simp [be_len]; omega), some_bind, put1 _ _ (by rw [lim_eq]; simp [be_len]; omega), some_bind, put4 _ _ (by rw [lim_eq]; simp [be_len]; omega)]
  unfold encM
  simp only [List.append_assoc]
theorem rput_mark (b : List UInt8) (m : TMark) (h : b.length ≤ 1000) : (((ref1_Put fuel b m.Seq 4)).bind fun r_2 =>
      ((ref1_Put fuel r_2 m.Err 1)).bind fun r_3 =>
      ((ref1_Put fuel r_3 m.File 1)).bind fun r_4 => ref1_Put fuel r_4 m.Ver 4) = some (b ++ encM m) := by
  rw [rput4 _ _ (by rw [lim_eq]; omega), some_bind, rput1 _ _ (by rw [lim_eq]; simp [be_len]; omega), some_bind, rput1 _ _ (by rw [lim_eq]; simp [be_len]; omega), some_bind, rput4 _ _ (by rw [lim_eq]; simp [be_len]; omega)]
  unfold encM
  simp only [List.append_assoc]

theorem natOk_of {n : Nat} (h : n ≤ 1000) : natOk (n : Int) = true := by
  unfold natOk
  simp; omega

theorem padded_ok (b s : List UInt8) (n : Nat) (hb : b.length ≤ 1000) (hn : n ≤ 100) (hs : s.length ≤ n) : image_padded b s ((n : Int) + 1) = some (b ++ padT n s) := by
  unfold image_padded image_padded_k
  rw [bits_Text_ok b s (by omega) (by rw [lim_eq]; omega), some_bind, wi64_of (show -9223372036854775808 ≤ (n : Int) + 1 - 1 by omega) (by omega), show (n : Int) + 1 - 1 - (s.length : Int) = ((n - s.length : Nat) : Int) by omega, wi64_of (by omega) (by omega), natOk_of (by omega), Int.toNat_natCast]
  rw [decide_eq_true (by rw [lim_eq]; simp [txt_len]; omega)]
  simp only [cond_true]
  unfold padT
  rw [List.append_assoc]
theorem pad8 (b s : List UInt8) (hb : b.length ≤ 1000) (hs : s.length ≤ 8) : image_padded b s 9 = some (b ++ padT 8 s) := padded_ok b s 8 hb (by omega) hs
theorem pad24 (b s : List UInt8) (hb : b.length ≤ 1000) (hs : s.length ≤ 24) : image_padded b s 25 = some (b ++ padT 24 s) := padded_ok b s 24 hb (by omega) hs

theorem marks_loop (l : List TMark) (hl : l.length ≤ 10) (s : TState) (b : List UInt8) (hb : b.length ≤ 10) : image_Put_l0 fuel l (l.length : Int) s 0 b = some (b ++ (l.map encM).flatten) := by
  unfold image_Put_l0
  obtain ⟨x, e, hx⟩ := iter_inv (step := image_Put_s0 fuel l (l.length : Int) s) (fun k v => ∃ i : Nat, v.1 = (i : Int) ∧ i + k = l.length ∧ v.2 = b ++ ((l.take i).map encM).flatten)
    (fun r => r = b ++ (l.map encM).flatten) (fun k v hI => by
    obtain ⟨v1, v2⟩ := v
    obtain ⟨i, h1, hk, h2⟩ := hI
    simp only at h1 h2
    subst h1 h2
    simp only [image_Put_s0, image_Put_s0k]
    by_cases hlt : i < l.length
    · rw [lt_dec hlt, inR_nat hlt, Int.toNat_natCast, List.getElem?_eq_getElem hlt]
      simp only [cond_true, some_bind]
      have := put_mark (b ++ ((l.take i).map encM).flatten) l[i] (by rw [List.length_append, flat_len encM 10 _ (fun m _ => encM_len m), List.length_take]; omega)
      have h3 := congrArg (fun o => o.bind fun r => some (Sum.inl (α := Int × List UInt8) (β := List UInt8) (wi64 ((i : Int) + 1), r))) this
      simp only [Option.bind_assoc, some_bind] at h3
      rw [h3, wi64_succ (by omega)]
      refine ⟨_, rfl, k - 1, by omega, i + 1, rfl, by omega, ?_⟩
      rw [flat_step _ _ _ hlt, ← List.append_assoc]
    · obtain rfl : i = l.length := by omega
      rw [ge_dec, List.take_length]
      exact ⟨_, rfl, rfl⟩) l.length (0, b) fuel ⟨0, rfl, by omega, by simp⟩ (fuel_gt (by omega))
  rw [e, hx]

theorem rmarks_loop (s : TState) (hl : s.Marks.length ≤ 10) (b : List UInt8) (hb : b.length ≤ 10) : ref7_PutImage_l0 fuel s 0 b = some (b ++ (s.Marks.map encM).flatten) := by
  unfold ref7_PutImage_l0
  obtain ⟨x, e, hx⟩ := iter_inv (step := ref7_PutImage_s0 fuel s) (fun k v => ∃ i : Nat, v.1 = (i : Int) ∧ i + k = s.Marks.length ∧ v.2 = b ++ ((s.Marks.take i).map encM).flatten)
    (fun r => r = b ++ (s.Marks.map encM).flatten) (fun k v hI => by
    obtain ⟨v1, v2⟩ := v
    obtain ⟨i, h1, hk, h2⟩ := hI
    simp only at h1 h2
    subst h1 h2
    simp only [ref7_PutImage_s0, ref7_PutImage_s0k]
    by_cases hlt : i < s.Marks.length
    · rw [lt_dec hlt, inR_nat hlt, Int.toNat_natCast, List.getElem?_eq_getElem hlt]
      simp only [cond_true, some_bind]
      have := rput_mark (b ++ ((s.Marks.take i).map encM).flatten) s.Marks[i] (by rw [List.length_append, flat_len encM 10 _ (fun m _ => encM_len m), List.length_take]; omega)
      have h3 := congrArg (fun o => o.bind fun r => some (Sum.inl (α := Int × List UInt8) (β := List UInt8) (wi64 ((i : Int) + 1), r))) this
      simp only [Option.bind_assoc, some_bind] at h3
      rw [h3, wi64_succ (by omega)]
      refine ⟨_, rfl, k - 1, by omega, i + 1, rfl, by omega, ?_⟩
      rw [flat_step _ _ _ hlt, ← List.append_assoc]
    · obtain rfl : i = s.Marks.length := by omega
      rw [ge_dec, List.take_length]
      exact ⟨_, rfl, rfl⟩) s.Marks.length (0, b) fuel ⟨0, rfl, by omega, by simp⟩ (fuel_gt (by omega))
  rw [e, hx]

theorem files_loop (l : List TFile) (hl : l.length ≤ 10) (hf : ∀ f ∈ l, fileOk f) (s : TState) (b : List UInt8) (hb : b.length ≤ 100) : image_Put_l1 fuel l (l.length : Int) s 0 b = some (b ++ (l.map encF).flatten) := by
  unfold image_Put_l1
  obtain ⟨x, e, hx⟩ := iter_inv (step := image_Put_s1 fuel l (l.length : Int) s) (fun k v => ∃ i : Nat, v.1 = (i : Int) ∧ i + k = l.length ∧ v.2 = b ++ ((l.take i).map encF).flatten)
    (fun r => r = b ++ (l.map encF).flatten) (fun k v hI => by
    obtain ⟨v1, v2⟩ := v
    obtain ⟨i, h1, hk, h2⟩ := hI
    simp only at h1 h2
    subst h1 h2
    simp only [image_Put_s1, image_Put_s1k]
    by_cases hlt : i < l.length
    · have hfo := hf _ (List.getElem_mem hlt)
      have hbl : (b ++ ((l.take i).map encF).flatten).length ≤ 500 := by
        rw [List.length_append, flat_len encF 38 _ (fun f h => encF_len (hf f (List.mem_of_mem_take h))), List.length_take]; omega
      rw [lt_dec hlt, inR_nat hlt, Int.toNat_natCast, List.getElem?_eq_getElem hlt]
      simp only [cond_true, some_bind]
      rw [pad8 _ _ (by omega) hfo.name, some_bind, put4 _ _ (by rw [lim_eq, List.length_append, padT_len hfo.name]; omega), some_bind, pad24 _ _ (by rw [List.length_append, List.length_append, padT_len hfo.name, be_len]; omega) hfo.body, some_bind, wi64_succ (by omega)]
      refine ⟨_, rfl, k - 1, by omega, i + 1, rfl, by omega, ?_⟩
      rw [flat_step _ _ _ hlt]
      simp only [encF, List.append_assoc]
    · obtain rfl : i = l.length := by omega
      rw [ge_dec, List.take_length]
      exact ⟨_, rfl, rfl⟩) l.length (0, b) fuel ⟨0, rfl, by omega, by simp⟩ (fuel_gt (by omega))
  rw [e, hx]

theorem rfiles_loop (s : TState) (hl : s.Files.length ≤ 10) (hf : ∀ f ∈ s.Files, fileOk f) (b : List UInt8) (hb : b.length ≤ 100) : ref7_PutImage_l1 fuel s 0 b = some (b ++ (s.Files.map encF).flatten) := by
  unfold ref7_PutImage_l1
  obtain ⟨x, e, hx⟩ := iter_inv (step := ref7_PutImage_s1 fuel s) (fun k v => ∃ i : Nat, v.1 = (i : Int) ∧ i + k = s.Files.length ∧ v.2 = b ++ ((s.Files.take i).map encF).flatten)
    (fun r => r = b ++ (s.Files.map encF).flatten) (fun k v hI => by
    obtain ⟨v1, v2⟩ := v
    obtain ⟨i, h1, hk, h2⟩ := hI
    simp only at h1 h2
    subst h1 h2
    simp only [ref7_PutImage_s1, ref7_PutImage_s1k]
    by_cases hlt : i < s.Files.length
    · have hfo := hf _ (List.getElem_mem hlt)
      have hn := hfo.name
      have hbd := hfo.body
      have hbl : (b ++ ((s.Files.take i).map encF).flatten).length ≤ 500 := by
        rw [List.length_append, flat_len encF 38 _ (fun f h => encF_len (hf f (List.mem_of_mem_take h))), List.length_take]; omega
      rw [lt_dec hlt, inR_nat hlt, Int.toNat_natCast, List.getElem?_eq_getElem hlt]
      simp only [cond_true, some_bind]
      rw [ref1_Text_ok _ _ (by omega) (by rw [lim_eq]; omega), some_bind, show (8 : Int) - (s.Files[i].Name.length : Int) = ((8 - s.Files[i].Name.length : Nat) : Int) by omega, wi64_of (by omega) (by omega), natOk_of (by omega), Int.toNat_natCast,
        decide_eq_true (by rw [lim_eq]; simp only [List.length_append, txt_len, List.length_replicate] at hbl ⊢; omega)]
      simp only [cond_true]
      rw [rput4 _ _ (by rw [lim_eq]; simp only [List.length_append, txt_len, List.length_replicate] at hbl ⊢; omega), some_bind, ref1_Text_ok _ _ (by omega) (by rw [lim_eq]; simp only [List.length_append, txt_len, List.length_replicate, be_len] at hbl ⊢; omega), some_bind,
        show (24 : Int) - (s.Files[i].Body.length : Int) = ((24 - s.Files[i].Body.length : Nat) : Int) by omega, wi64_of (by omega) (by omega), natOk_of (by omega), Int.toNat_natCast,
        decide_eq_true (by rw [lim_eq]; simp only [List.length_append, txt_len, List.length_replicate, be_len] at hbl ⊢; omega), wi64_succ (by omega)]
      refine ⟨_, rfl, k - 1, by omega, i + 1, rfl, by omega, ?_⟩
      rw [flat_step _ _ _ hlt]
      simp only [encF, padT, List.append_assoc]
    · obtain rfl : i = s.Files.length := by omega
      rw [ge_dec, List.take_length]
      exact ⟨_, rfl, rfl⟩) s.Files.length (0, b) fuel ⟨0, rfl, by omega, by simp⟩ (fuel_gt (by omega))
  rw [e, hx]

open Classical in
noncomputable def putI (s : TState) : List (List UInt8) := if Good 1073741824 s then img s else []

theorem Put_ok (s : TState) (hn : ∀ f ∈ s.Files, f.Name.length < 4294967296) : image_Put fuel s = some (putI s) := by
  unfold image_Put image_Put_k putI
  obtain ⟨b, e, hb⟩ := May_ok s hn
  rw [e, some_bind]
  cases b with
  | false =>
    rw [if_neg fun h => by have := hb.2 h; cases this]
    rfl
  | true =>
    have hg := hb.1 rfl
    rw [if_pos hg]
    simp only [Bool.not_true, cond_false]
    rw [put4 _ _ (by rw [lim_eq]; simp), some_bind, marks_loop _ (by rw [hg.nm]; omega) _ _ (by simp [be_len]), some_bind, files_loop _ (by rw [hg.nf]; omega) hg.fs _ _ (by simp only [List.length_append, be_len, List.length_nil]; rw [flat_len encM 10 _ (fun m _ => encM_len m), hg.nm]; omega), some_bind]
    have hE : [] ++ be 4 s.Epoch ++ (s.Marks.map encM).flatten ++ (s.Files.map encF).flatten = enc s := by
      unfold enc; simp
    rw [hE, enc_len hg]
    rfl
end Go.Proofs.Ythefogjlenmgfaa.N

set_option linter.unusedVariables false
set_option linter.unusedSimpArgs false
namespace Go.Proofs.Ythefogjlenmgfaa.N
open Go

theorem cut_mid {α : Type} (b : List α) (i k : Nat) : cutL b (i : Int) ((i + k : Nat) : Int) = (b.drop i).take k := by
  unfold cutL
  rw [Int.toNat_natCast, Int.toNat_natCast, List.drop_take]
  congr 1
  omega

theorem PutImage_ok (s : TState) (hn : ∀ f ∈ s.Files, f.Name.length < 4294967296) : ref7_PutImage fuel s = some (putI s) := by
  unfold ref7_PutImage ref7_PutImage_k putI
  obtain ⟨b, e, hb⟩ := MayState_ok s hn
  rw [e, some_bind]
  cases b with
  | false =>
    rw [if_neg fun h => by have := hb.2 h; cases this]
    rfl
  | true =>
    have hg := hb.1 rfl
    rw [if_pos hg]
    simp only [Bool.not_true, cond_false]
    rw [rput4 _ _ (by rw [lim_eq]; simp), some_bind, rmarks_loop _ (by rw [hg.nm]; omega) _ (by simp [be_len]), some_bind, rfiles_loop _ (by rw [hg.nf]; omega) hg.fs _ (by simp only [List.length_append, be_len, List.length_nil]; rw [flat_len encM 10 _ (fun m _ => encM_len m), hg.nm]; omega), some_bind]
    have hE : [] ++ be 4 s.Epoch ++ (s.Marks.map encM).flatten ++ (s.Files.map encF).flatten = enc s := by
      unfold enc; simp
    rw [hE]
    have hl := enc_len hg
    unfold ref7_PutImage_l2
    obtain ⟨x, e2, hx⟩ := iter_inv (step := ref7_PutImage_s2 s) (fun k v => k ≤ 26 ∧ v = enc s ++ List.replicate (26 - k) 0) (fun r => r = enc s ++ List.replicate 26 0) (fun k v hI => by
      obtain ⟨hk, rfl⟩ := hI
      simp only [ref7_PutImage_s2, ref7_PutImage_s2k]
      have hlen : (enc s ++ List.replicate (26 - k) (0 : UInt8)).length = 288 - k := by rw [List.length_append, hl, List.length_replicate]; omega
      rw [hlen]
      have hmod : ((288 - k : Nat) : Int).tmod 32 = ((288 - k) % 32 : Nat) := by
        rw [Int.tmod_eq_emod_of_nonneg (Int.natCast_nonneg _)]; rfl
      rw [hmod]
      by_cases h0 : k = 0
      · subst h0
        exact ⟨_, rfl, rfl⟩
      · rw [show ((((288 - k) % 32 : Nat) : Int) != 0) = true by simp; omega, decide_eq_true (by rw [lim_eq]; omega)]
        refine ⟨_, rfl, k - 1, by omega, by omega, ?_⟩
        rw [List.append_assoc, show (26 - (k - 1)) = (26 - k) + 1 by omega, List.replicate_succ']) 26 (enc s) fuel ⟨by omega, by simp⟩ (fuel_gt (by omega))
    rw [e2, some_bind, hx]
    unfold ref7_PutImage_l3 img
    generalize hB : enc s ++ List.replicate 26 (0 : UInt8) = B
    have hBl : B.length = 288 := by rw [← hB, List.length_append, hl, List.length_replicate]
    obtain ⟨y, e3, hy⟩ := iter_inv (step := ref7_PutImage_s3 s B) (fun k v => ∃ j : Nat, v.1 = ((32 * j : Nat) : Int) ∧ j + k = 9 ∧ v.2 = (List.range j).map (chunkS B)) (fun r => r = chunkL B) (fun k v hI => by
      obtain ⟨v1, v2⟩ := v
      obtain ⟨j, h1, hk, h2⟩ := hI
      simp only at h1 h2
      subst h1 h2
      simp only [ref7_PutImage_s3, ref7_PutImage_s3k]
      rw [hBl]
      by_cases hlt : j < 9
      · rw [decide_eq_true (show ((32 * j : Nat) : Int) < ((288 : Nat) : Int) by omega), wi64_of (by omega) (by omega), show ((32 * j : Nat) : Int) + 32 = ((32 * j + 32 : Nat) : Int) by omega, cutOk_of (by omega) (by omega) (by omega), decide_eq_true (by rw [lim_eq]; simp; omega), cut_mid]
        refine ⟨_, rfl, k - 1, by omega, j + 1, by show ((32 * j + 32 : Nat) : Int) = ((32 * (j + 1) : Nat) : Int); omega, by omega, ?_⟩
        rw [List.range_succ, List.map_append]
        rfl
      · obtain rfl : j = 9 := by omega
        exact ⟨_, rfl, by unfold chunkL; rw [hBl]; rfl⟩) 9 (0, []) fuel ⟨0, rfl, rfl, rfl⟩ (fuel_gt (by omega))
    rw [e3, some_bind, hy]

/-! Alike -/
theorem SameTexts_ok (a b : List (List UInt8)) (ha : a.length ≤ 1000) : ref5_SameTexts fuel a b = some (a == b) := by
  unfold ref5_SameTexts ref5_SameTexts_k
  by_cases hl : a.length = b.length
  · rw [show ((a.length : Int) != (b.length : Int)) = false by simp; omega]
    simp only [cond_false]
    unfold ref5_SameTexts_l0
    obtain ⟨x, e, hx⟩ := iter_inv (step := ref5_SameTexts_s0 a b) (fun k v => ∃ i : Nat, v = (i : Int) ∧ i + k = a.length ∧ a.take i = b.take i) (fun r => Sum.elim (fun _ => a ≠ b) (fun _ => a = b) r) (fun k v hI => by
      obtain ⟨i, rfl, hk, h⟩ := hI
      simp only [ref5_SameTexts_s0, ref5_SameTexts_s0k]
      by_cases hlt : i < a.length
      · have hlt2 : i < b.length := by omega
        rw [lt_dec hlt, inR_nat hlt, inR_nat hlt2, Int.toNat_natCast, List.getElem?_eq_getElem hlt, List.getElem?_eq_getElem hlt2]
        simp only [cond_true, some_bind]
        by_cases he : a[i] = b[i]
        · rw [beq_of he, wi64_succ (by omega)]
          refine ⟨_, rfl, k - 1, by omega, i + 1, rfl, by omega, ?_⟩
          rw [List.take_add_one, List.take_add_one, h, List.getElem?_eq_getElem hlt, List.getElem?_eq_getElem hlt2, he]
        · rw [beq_ne he]
          refine ⟨_, rfl, fun h => he (by subst h; rfl)⟩
      · obtain rfl : i = a.length := by omega
        rw [ge_dec]
        refine ⟨_, rfl, ?_⟩
        rw [List.take_length, hl, List.take_length] at h
        exact h) a.length (0 : Int) fuel ⟨0, rfl, by omega, rfl⟩ (fuel_gt (by omega))
    rw [e, some_bind]
    cases x with
    | inl u => rw [beq_ne (show a ≠ b from hx)]; rfl
    | inr u => rw [beq_of (show a = b from hx)]; rfl
  · rw [show ((a.length : Int) != (b.length : Int)) = true by simp; omega, beq_ne (fun h => hl (by rw [h]))]
    rfl

theorem EqualT_ok (a b : List (List UInt8)) (ha : a.length ≤ 1000) : slices_Equal_string fuel a b = some (a == b) := by
  unfold slices_Equal_string slices_Equal_string_k
  by_cases hl : a.length = b.length
  · rw [show ((a.length : Int) != (b.length : Int)) = false by simp; omega]
    simp only [cond_false]
    unfold slices_Equal_string_l0
    obtain ⟨x, e, hx⟩ := iter_inv (step := slices_Equal_string_s0 a b (a.length : Int)) (fun k v => ∃ i : Nat, v = (i : Int) ∧ i + k = a.length ∧ a.take i = b.take i) (fun r => Sum.elim (fun _ => a ≠ b) (fun _ => a = b) r) (fun k v hI => by
      obtain ⟨i, rfl, hk, h⟩ := hI
      simp only [slices_Equal_string_s0, slices_Equal_string_s0k]
      by_cases hlt : i < a.length
      · have hlt2 : i < b.length := by omega
        rw [lt_dec hlt, inR_nat hlt, inR_nat hlt2, Int.toNat_natCast, List.getElem?_eq_getElem hlt, List.getElem?_eq_getElem hlt2]
        simp only [cond_true, some_bind]
        by_cases he : a[i] = b[i]
        · rw [beq_of he, wi64_succ (by omega)]
          refine ⟨_, rfl, k - 1, by omega, i + 1, rfl, by omega, ?_⟩
          rw [List.take_add_one, List.take_add_one, h, List.getElem?_eq_getElem hlt, List.getElem?_eq_getElem hlt2, he]
        · rw [beq_ne he]
          refine ⟨_, rfl, fun h => he (by subst h; rfl)⟩
      · obtain rfl : i = a.length := by omega
        rw [ge_dec]
        refine ⟨_, rfl, ?_⟩
        rw [List.take_length, hl, List.take_length] at h
        exact h) a.length (0 : Int) fuel ⟨0, rfl, by omega, rfl⟩ (fuel_gt (by omega))
    rw [e, some_bind]
    cases x with
    | inl u => rw [beq_ne (show a ≠ b from hx)]; rfl
    | inr u => rw [beq_of (show a = b from hx)]; rfl
  · rw [show ((a.length : Int) != (b.length : Int)) = true by simp; omega, beq_ne (fun h => hl (by rw [h]))]
    rfl

/-! What is unlike -/
def diff1 (a b : List (List UInt8)) (i : Nat) : Option TPut := match b[i]? with
  | some y => if a[i]? = some y then none else some ⟨(i : Int), y⟩
  | none => none
def diffP (a b : List (List UInt8)) : List TPut := (List.range b.length).filterMap (diff1 a b)

theorem diff_len (a b : List (List UInt8)) (n : Nat) : ((List.range n).filterMap (diff1 a b)).length ≤ n := by
  have := List.length_filterMap_le (diff1 a b) (List.range n)
  rwa [List.length_range] at this
theorem diff_step (a b : List (List UInt8)) (i : Nat) : (List.range (i + 1)).filterMap (diff1 a b) = (List.range i).filterMap (diff1 a b) ++ (diff1 a b i).toList := by
  rw [List.range_succ, List.filterMap_append]
  congr 1

theorem Diff_ok (a b : List (List UInt8)) (hb : b.length ≤ 1000) : image_Diff fuel a b = some (diffP a b) := by
  unfold image_Diff image_Diff_k image_Diff_l0
  obtain ⟨x, e, hx⟩ := iter_inv (step := image_Diff_s0 a b (b.length : Int)) (fun k v => ∃ i : Nat, v.1 = (i : Int) ∧ i + k = b.length ∧ v.2 = (List.range i).filterMap (diff1 a b)) (fun r => r = diffP a b) (fun k v hI => by
    obtain ⟨v1, v2⟩ := v
    obtain ⟨i, h1, hk, h2⟩ := hI
    simp only at h1 h2
    subst h1 h2
    simp only [image_Diff_s0, image_Diff_s0k]
    have hd := diff_len a b i
    by_cases hlt : i < b.length
    · rw [lt_dec hlt, inR_nat hlt, Int.toNat_natCast, List.getElem?_eq_getElem hlt]
      simp only [cond_true, some_bind]
      rw [decide_eq_true (show ((List.range i).filterMap (diff1 a b)).length + 1 ≤ lim by rw [lim_eq]; omega), wi64_succ (by omega)]
      by_cases ha : i < a.length
      · rw [decide_eq_false (show ¬ (i : Int) ≥ (a.length : Int) by omega), inR_nat ha, List.getElem?_eq_getElem ha]
        simp only [cond_true, cond_false, some_bind]
        by_cases he : a[i] = b[i]
        · rw [beq_of he]
          refine ⟨_, rfl, k - 1, by omega, i + 1, rfl, by omega, ?_⟩
          rw [diff_step]
          simp [diff1, List.getElem?_eq_getElem hlt, List.getElem?_eq_getElem ha, he]
        · rw [beq_ne he]
          refine ⟨_, rfl, k - 1, by omega, i + 1, rfl, by omega, ?_⟩
          rw [diff_step]
          simp [diff1, List.getElem?_eq_getElem hlt, List.getElem?_eq_getElem ha, he]
      · rw [decide_eq_true (show (i : Int) ≥ (a.length : Int) by omega)]
        refine ⟨_, rfl, k - 1, by omega, i + 1, rfl, by omega, ?_⟩
        rw [diff_step]
        simp [diff1, List.getElem?_eq_getElem hlt, List.getElem?_eq_none (Nat.le_of_not_lt ha)]
    · obtain rfl : i = b.length := by omega
      rw [ge_dec]
      exact ⟨_, rfl, rfl⟩) b.length (0, []) fuel ⟨0, rfl, by omega, rfl⟩ (fuel_gt (by omega))
  rw [e, some_bind, hx]

theorem rDiff_ok (a b : List (List UInt8)) (hb : b.length ≤ 1000) : ref7_Diff fuel a b = some (diffP a b) := by
  unfold ref7_Diff ref7_Diff_k ref7_Diff_l0
  obtain ⟨x, e, hx⟩ := iter_inv (step := ref7_Diff_s0 a b) (fun k v => ∃ i : Nat, v.1 = (i : Int) ∧ i + k = b.length ∧ v.2 = (List.range i).filterMap (diff1 a b)) (fun r => r = diffP a b) (fun k v hI => by
    obtain ⟨v1, v2⟩ := v
    obtain ⟨i, h1, hk, h2⟩ := hI
    simp only at h1 h2
    subst h1 h2
    simp only [ref7_Diff_s0, ref7_Diff_s0k]
    have hd := diff_len a b i
    by_cases hlt : i < b.length
    · rw [lt_dec hlt, inR_nat hlt, Int.toNat_natCast, List.getElem?_eq_getElem hlt]
      simp only [cond_true, some_bind]
      rw [decide_eq_true (show ((List.range i).filterMap (diff1 a b)).length + 1 ≤ lim by rw [lim_eq]; omega), wi64_succ (by omega)]
      by_cases ha : i < a.length
      · rw [decide_eq_false (show ¬ (i : Int) ≥ (a.length : Int) by omega), inR_nat ha, List.getElem?_eq_getElem ha]
        simp only [cond_true, cond_false, some_bind]
        by_cases he : a[i] = b[i]
        · rw [beq_of he]
          refine ⟨_, rfl, k - 1, by omega, i + 1, rfl, by omega, ?_⟩
          rw [diff_step]
          simp [diff1, List.getElem?_eq_getElem hlt, List.getElem?_eq_getElem ha, he]
        · rw [beq_ne he]
          refine ⟨_, rfl, k - 1, by omega, i + 1, rfl, by omega, ?_⟩
          rw [diff_step]
          simp [diff1, List.getElem?_eq_getElem hlt, List.getElem?_eq_getElem ha, he]
      · rw [decide_eq_true (show (i : Int) ≥ (a.length : Int) by omega)]
        refine ⟨_, rfl, k - 1, by omega, i + 1, rfl, by omega, ?_⟩
        rw [diff_step]
        simp [diff1, List.getElem?_eq_getElem hlt, List.getElem?_eq_none (Nat.le_of_not_lt ha)]
    · obtain rfl : i = b.length := by omega
      rw [ge_dec]
      exact ⟨_, rfl, rfl⟩) b.length (0, []) fuel ⟨0, rfl, by omega, rfl⟩ (fuel_gt (by omega))
  rw [e, some_bind, hx]

theorem diff_self (a : List (List UInt8)) : diffP a a = [] := by
  unfold diffP
  rw [List.filterMap_eq_nil_iff]
  intro i _
  unfold diff1
  cases h : a[i]? with
  | none => rfl
  | some y => simp
end Go.Proofs.Ythefogjlenmgfaa.N

set_option linter.unusedVariables false
set_option maxRecDepth 100000
namespace Go.Proofs.Ythefogjlenmgfaa.N
open Go

theorem image_begun : law11_begun fuel = some true := by rw [fuel_eq]; kernel_rfl

theorem img_len {B : Int} {s : TState} (h : Good B s) : (img s).length = 9 := by
  unfold img chunkL
  rw [List.length_map, List.length_range, List.length_append, enc_len h, List.length_replicate]
theorem img_each {B : Int} {s : TState} (h : Good B s) : ∀ x ∈ img s, x.length = 32 := by
  intro x hx
  unfold img chunkL at hx
  rw [List.length_append, enc_len h, List.length_replicate] at hx
  obtain ⟨k, hk, rfl⟩ := List.mem_map.1 hx
  have := List.mem_range.1 hk
  unfold chunkS
  rw [List.length_take, List.length_drop, List.length_append, enc_len h, List.length_replicate]
  omega
theorem putI_good {s : TState} (h : Good 1073741824 s) : putI s = img s := by unfold putI; rw [if_pos h]
theorem good_names {B : Int} {s : TState} (h : Good B s) : ∀ f ∈ s.Files, f.Name.length < 4294967296 := fun f hf => by have := (h.fs f hf).name; omega

theorem fixed_loop (l : List (List UInt8)) (o : Ttenancymade_Picks) (hl : l.length ≤ 1000) (h : ∀ x ∈ l, x.length = 32) : law11_ImageFixed_l0 fuel l o 0 = some (.inr ()) := by
  unfold law11_ImageFixed_l0
  obtain ⟨x, e, hx⟩ := iter_inv (step := law11_ImageFixed_s0 l o) (fun k v => ∃ i : Nat, v = (i : Int) ∧ i + k = l.length) (fun r => r = .inr ()) (fun k v hI => by
    obtain ⟨i, rfl, hk⟩ := hI
    simp only [law11_ImageFixed_s0, law11_ImageFixed_s0k]
    by_cases hlt : i < l.length
    · rw [lt_dec hlt, inR_nat hlt, Int.toNat_natCast, List.getElem?_eq_getElem hlt]
      simp only [cond_true, some_bind]
      rw [h _ (List.getElem_mem hlt), wi64_succ (by omega)]
      exact ⟨_, rfl, k - 1, by omega, i + 1, rfl, by omega⟩
    · obtain rfl : i = l.length := by omega
      rw [ge_dec]
      exact ⟨_, rfl, rfl⟩) l.length (0 : Int) fuel ⟨0, rfl, by omega⟩ (fuel_gt (by omega))
  rw [e, hx]

theorem law11_ImageFixed_ok (picks : List UInt8) (h : picks.length ≤ 1048576) : law11_ImageFixed fuel picks = some true := by
  unfold law11_ImageFixed law11_ImageFixed_k
  rw [image_begun, some_bind]
  simp only [Bool.not_true, cond_false]
  by_cases hp : (picks.length : Int) > 60
  · rw [decide_eq_true hp]; rfl
  · rw [decide_eq_false hp]
    simp only [cond_false]
    obtain ⟨r, e, hg⟩ := State_ok 30 (by omega) (made_Made picks) (made_ok picks (by omega))
    have e' : made_Picks_State fuel 30 (made_Made picks) = some r := e
    rw [e', some_bind, Put_ok _ (good_names hg), some_bind, putI_good hg, fixed_loop _ _ (by rw [img_len hg]; omega) (img_each hg), some_bind]
    simp only [alt_inr]
    have hnew : image_Put fuel (TState.mk [(TFile.mk [] 0 []), (TFile.mk [] 0 []), (TFile.mk [] 0 []), (TFile.mk [] 0 []), (TFile.mk [] 0 []), (TFile.mk [] 0 [])] [(TMark.mk 0 0 0 0), (TMark.mk 0 0 0 0), (TMark.mk 0 0 0 0)] 0) = some (img newState) := by
      have := Put_ok newState (good_names new_ok)
      rw [putI_good (new_ok.mono (by omega))] at this
      exact this
    rw [hnew, some_bind, Diff_ok _ _ (by rw [img_len new_ok]; omega), some_bind, img_len hg, decide_eq_true (show ((diffP (img r.1) (img newState)).length : Int) ≤ 9 by
      have := diff_len (img r.1) (img newState) (img newState).length
      rw [img_len new_ok] at this
      unfold diffP
      rw [img_len new_ok]
      omega), Diff_ok _ _ (by rw [img_len hg]; omega), diff_self]
    rfl
end Go.Proofs.Ythefogjlenmgfaa.N

set_option linter.unusedVariables false
set_option linter.unusedSimpArgs false
namespace Go.Proofs.Ythefogjlenmgfaa.N
open Go

def pMark (b : List UInt8) : Option (TMark × List UInt8) := (num 4 b).bind fun p => (num 1 p.2).bind fun q => (num 1 q.2).bind fun r => (num 4 r.2).bind fun u => some (⟨p.1, q.1, r.1, u.1⟩, u.2)
def textN (n : Nat) (b : List UInt8) : Option (List UInt8 × List UInt8) := (text b).bind fun p => if p.1.length + 1 ≤ n ∧ n ≤ b.length then some (p.1, b.drop n) else none
def pFile (b : List UInt8) : Option (TFile × List UInt8) := (textN 9 b).bind fun p => (num 4 p.2).bind fun q => (textN 25 q.2).bind fun r => some (⟨p.1, q.1, r.1⟩, r.2)
def pList {A : Type} (p : List UInt8 → Option (A × List UInt8)) : Nat → List UInt8 → List A → Option (List A × List UInt8)
  | 0, b, l => some (l, b)
  | n + 1, b, l => (p b).bind fun x => pList p n x.2 (l ++ [x.1])
def pState (b : List UInt8) : Option TState := (num 4 b).bind fun e => (pList pMark 3 e.2 []).bind fun m => (pList pFile 6 m.2 []).bind fun f => some ⟨f.1, m.1, e.1⟩

theorem inum_ok (b : List UInt8) (k : Nat) (h1 : 1 ≤ k) (h7 : k ≤ 7) : image_reader_num_2 fuel (k : Int) ⟨b⟩ = some (match num k b with | some (v, r) => .inl (v, ⟨r⟩) | none => .inr ()) := by
  unfold image_reader_num_2 image_reader_num_2_k
  rw [bits_Take_ok b k h1 h7]
  unfold num
  by_cases h : b.length < k
  · rw [if_pos h]; rfl
  · rw [if_neg h]
    simp only [some_bind, Bool.not_true, cond_false]
    rw [cutOk_of (by omega) (by omega) (by omega), cut_back]
    rfl
theorem inum0_ok (b : List UInt8) : image_reader_num fuel 4 ⟨b⟩ = some (match num 4 b with | some (v, r) => .inl (v, ⟨r⟩, b) | none => .inr ()) := by
  unfold image_reader_num image_reader_num_k
  have := bits_Take_ok b 4 (by omega) (by omega)
  rw [show ((4 : Nat) : Int) = 4 from rfl] at this
  rw [this]
  unfold num
  by_cases h : b.length < 4
  · rw [if_pos h]; rfl
  · rw [if_neg h]
    simp only [some_bind, Bool.not_true, cond_false]
    have hc := cut_back b 4
    rw [show ((4 : Nat) : Int) = 4 from rfl] at hc
    rw [cutOk_of (by omega) (by omega) (by omega), hc]
    rfl
theorem in1 (b : List UInt8) : image_reader_num_2 fuel 1 ⟨b⟩ = some (match num 1 b with | some (v, r) => .inl (v, ⟨r⟩) | none => .inr ()) := inum_ok b 1 (by omega) (by omega)
theorem in4 (b : List UInt8) : image_reader_num_2 fuel 4 ⟨b⟩ = some (match num 4 b with | some (v, r) => .inl (v, ⟨r⟩) | none => .inr ()) := inum_ok b 4 (by omega) (by omega)

theorem itext_ok (b : List UInt8) (n : Nat) (hn : n ≤ 100) (hb : b.length ≤ lim) : image_reader_text (n : Int) ⟨b⟩ = some (match textN n b with | some (s, r) => .inl (s, ⟨r⟩) | none => .inr ()) := by
  unfold image_reader_text image_reader_text_k textN
  rw [take_text_ok b hb]
  cases h : text b with
  | none => rfl
  | some p =>
    obtain ⟨s, r⟩ := p
    simp only [some_bind, Bool.not_true, cond_false]
    by_cases h1 : s.length + 1 ≤ n
    · rw [decide_eq_false (show ¬ (s.length : Int) + 1 > (n : Int) by omega)]
      by_cases h2 : n ≤ b.length
      · rw [decide_eq_false (show ¬ (b.length : Int) < (n : Int) by omega), if_pos ⟨h1, h2⟩, cutOk_of (by omega) (by omega) (by omega), cut_back]
        rfl
      · rw [decide_eq_true (show (b.length : Int) < (n : Int) by omega), if_neg (fun h => h2 h.2)]
        rfl
    · rw [decide_eq_true (show (s.length : Int) + 1 > (n : Int) by omega), if_neg (fun h => h1 h.1)]
      rfl
theorem it9 (b : List UInt8) (hb : b.length ≤ lim) : image_reader_text 9 ⟨b⟩ = some (match textN 9 b with | some (s, r) => .inl (s, ⟨r⟩) | none => .inr ()) := itext_ok b 9 (by omega) hb
theorem it25 (b : List UInt8) (hb : b.length ≤ lim) : image_reader_text 25 ⟨b⟩ = some (match textN 25 b with | some (s, r) => .inl (s, ⟨r⟩) | none => .inr ()) := itext_ok b 25 (by omega) hb
theorem textN_parts {n : Nat} {b s r : List UInt8} (h : textN n b = some (s, r)) : s.length + 1 ≤ n ∧ r.length + n = b.length := by
  unfold textN at h
  cases ht : text b with
  | none => rw [ht] at h; cases h
  | some p =>
    rw [ht, some_bind] at h
    split at h
    · rename_i hc
      cases h
      exact ⟨hc.1, by rw [List.length_drop]; omega⟩
    · cases h

/-- The marks' loop. -/
theorem rmarks (r1 : List UInt8) (e : Int) : ∀ (m i : Nat) (b : List UInt8) (l : List TMark) (n : Nat), i + m = 3 → m < n → l.length + m ≤ 100 → ∃ x, iter (image_reader_read_s0 fuel r1) n ((i : Int), ⟨b⟩, ⟨[], l, e⟩) = some x ∧
    (match pList pMark m b l with | some (l', b') => x = .inr (⟨b'⟩, ⟨[], l', e⟩) | none => ∃ y, x = .inl y)
  | _, _, _, _, 0, _, h, _ => absurd h (Nat.not_lt_zero _)
  | 0, i, b, l, n + 1, hi, _, _ => by
    obtain rfl : i = 3 := by omega
    rw [iter_succ]
    exact ⟨_, rfl, rfl⟩
  | m + 1, i, b, l, n + 1, hi, hn, hl => by
    rw [iter_succ]
    simp only [image_reader_read_s0, image_reader_read_s0k]
    rw [decide_eq_true (show (i : Int) < 3 by omega), in4]
    simp only [cond_true, some_bind, pList, pMark]
    cases h1 : num 4 b with
    | none => exact ⟨_, rfl, _, rfl⟩
    | some p =>
      obtain ⟨v1, b1⟩ := p
      simp only [alt_inl, some_bind]
      rw [in1, some_bind]
      cases h2 : num 1 b1 with
      | none => exact ⟨_, rfl, _, rfl⟩
      | some p =>
        obtain ⟨v2, b2⟩ := p
        simp only [alt_inl, some_bind]
        rw [in1, some_bind]
        cases h3 : num 1 b2 with
        | none => exact ⟨_, rfl, _, rfl⟩
        | some p =>
          obtain ⟨v3, b3⟩ := p
          simp only [alt_inl, some_bind]
          rw [in4, some_bind]
          cases h4 : num 4 b3 with
          | none => exact ⟨_, rfl, _, rfl⟩
          | some p =>
            obtain ⟨v4, b4⟩ := p
            simp only [alt_inl, some_bind]
            rw [decide_eq_true (show l.length + 1 ≤ lim by rw [lim_eq]; omega), wi64_succ (by omega)]
            exact rmarks r1 e m (i + 1) b4 (l ++ [⟨v1, v2, v3, v4⟩]) n (by omega) (by omega) (by simp; omega)

theorem rfiles (r1 : List UInt8) (e : Int) (mk : List TMark) : ∀ (m i : Nat) (b : List UInt8) (l : List TFile) (n : Nat), i + m = 6 → m < n → l.length + m ≤ 100 → b.length ≤ lim → ∃ x, iter (image_reader_read_s1 fuel r1) n ((i : Int), ⟨b⟩, ⟨l, mk, e⟩) = some x ∧
    (match pList pFile m b l with | some (l', b') => x = .inr (.inr (⟨b'⟩, ⟨l', mk, e⟩)) | none => (∃ y, x = .inl y) ∨ ∃ y, x = .inr (.inl y))
  | _, _, _, _, 0, _, h, _, _ => absurd h (Nat.not_lt_zero _)
  | 0, i, b, l, n + 1, hi, _, _, _ => by
    obtain rfl : i = 6 := by omega
    rw [iter_succ]
    exact ⟨_, rfl, rfl⟩
  | m + 1, i, b, l, n + 1, hi, hn, hl, hb => by
    rw [iter_succ]
    simp only [image_reader_read_s1, image_reader_read_s1k]
    rw [decide_eq_true (show (i : Int) < 6 by omega), it9 _ hb]
    simp only [cond_true, some_bind, pList, pFile]
    cases h1 : textN 9 b with
    | none => exact ⟨_, rfl, .inl ⟨_, rfl⟩⟩
    | some p =>
      obtain ⟨v1, b1⟩ := p
      have hb1 := (textN_parts h1).2
      simp only [alt_inl, some_bind]
      rw [in4, some_bind]
      cases h2 : num 4 b1 with
      | none => exact ⟨_, rfl, .inl ⟨_, rfl⟩⟩
      | some p =>
        obtain ⟨v2, b2⟩ := p
        have hb2 := (num_parts h2).1
        simp only [alt_inl, some_bind]
        rw [it25 _ (by omega), some_bind]
        cases h3 : textN 25 b2 with
        | none => exact ⟨_, rfl, .inr ⟨_, rfl⟩⟩
        | some p =>
          obtain ⟨v3, b3⟩ := p
          have hb3 := (textN_parts h3).2
          simp only [alt_inl, some_bind]
          rw [decide_eq_true (show l.length + 1 ≤ lim by rw [lim_eq]; omega), wi64_succ (by omega)]
          exact rfiles r1 e mk m (i + 1) b3 (l ++ [⟨v1, v2, v3⟩]) n (by omega) (by omega) (by simp; omega) (by omega)

theorem pMarks_len : ∀ (m : Nat) (b : List UInt8) (l l' : List TMark) (b' : List UInt8), pList pMark m b l = some (l', b') → b'.length ≤ b.length
  | 0, b, l, l', b', h => by cases h; exact Nat.le_refl _
  | m + 1, b, l, l', b', h => by
    rw [pList] at h
    cases hp : pMark b with
    | none => rw [hp] at h; cases h
    | some p =>
      rw [hp, some_bind] at h
      have hq := pMarks_len m _ _ _ _ h
      have hq2 : p.2.length ≤ b.length := by
        unfold pMark at hp
        cases h1 : num 4 b with
        | none => rw [h1] at hp; cases hp
        | some p1 =>
          rw [h1, some_bind] at hp
          cases h2 : num 1 p1.2 with
          | none => rw [h2] at hp; cases hp
          | some p2 =>
            rw [h2, some_bind] at hp
            cases h3 : num 1 p2.2 with
            | none => rw [h3] at hp; cases hp
            | some p3 =>
              rw [h3, some_bind] at hp
              cases h4 : num 4 p3.2 with
              | none => rw [h4] at hp; cases hp
              | some p4 =>
                rw [h4, some_bind] at hp
                cases hp
                have := (num_parts h1).1
                have := (num_parts h2).1
                have := (num_parts h3).1
                have := (num_parts h4).1
                show p4.2.length ≤ _
                omega
      omega

theorem pFiles_names : ∀ (m : Nat) (b : List UInt8) (l l' : List TFile) (b' : List UInt8), pList pFile m b l = some (l', b') → (∀ f ∈ l, f.Name.length ≤ 8) → ∀ f ∈ l', f.Name.length ≤ 8
  | 0, b, l, l', b', h, hl => by cases h; exact hl
  | m + 1, b, l, l', b', h, hl => by
    rw [pList] at h
    cases hp : pFile b with
    | none => rw [hp] at h; cases h
    | some p =>
      rw [hp, some_bind] at h
      refine pFiles_names m _ _ _ _ h fun f hf => ?_
      rcases List.mem_append.1 hf with hf | hf
      · exact hl f hf
      · obtain rfl := List.mem_singleton.1 hf
        unfold pFile at hp
        cases h1 : textN 9 b with
        | none => rw [h1] at hp; cases hp
        | some p1 =>
          rw [h1, some_bind] at hp
          cases h2 : num 4 p1.2 with
          | none => rw [h2] at hp; cases hp
          | some p2 =>
            rw [h2, some_bind] at hp
            cases h3 : textN 25 p2.2 with
            | none => rw [h3] at hp; cases hp
            | some p3 =>
              rw [h3, some_bind] at hp
              cases hp
              have := (textN_parts h1).1
              show p1.1.length ≤ 8
              omega

theorem pState_names {b : List UInt8} {s : TState} (h : pState b = some s) : ∀ f ∈ s.Files, f.Name.length < 4294967296 := by
  unfold pState at h
  cases h1 : num 4 b with
  | none => rw [h1] at h; cases h
  | some p1 =>
    rw [h1, some_bind] at h
    cases h2 : pList pMark 3 p1.2 [] with
    | none => rw [h2] at h; cases h
    | some p2 =>
      rw [h2, some_bind] at h
      cases h3 : pList pFile 6 p2.2 [] with
      | none => rw [h3] at h; cases h
      | some p3 =>
        rw [h3, some_bind] at h
        cases h
        intro f hf
        have := pFiles_names 6 _ _ _ _ h3 (fun f hf => by cases hf) f hf
        omega

theorem read_ok (b : List UInt8) (hb : b.length ≤ lim) : ∃ r, image_reader_read fuel ⟨b⟩ = some r ∧ (match pState b with | some s => ∃ y, r = .inl (s, y) | none => ∃ y, r = .inr y) := by
  unfold image_reader_read image_reader_read_k pState
  rw [inum0_ok, some_bind]
  cases h1 : num 4 b with
  | none => exact ⟨_, rfl, _, rfl⟩
  | some p =>
    obtain ⟨v1, b1⟩ := p
    have hb1 := (num_parts h1).1
    simp only [alt_inl, some_bind]
    obtain ⟨x, e, hx⟩ := rmarks b v1 3 0 b1 [] fuel rfl (fuel_gt (by omega)) (by simp)
    have e' : image_reader_read_l0 fuel b 0 ⟨b1⟩ (TState.mk [] [] v1) = some x := e
    rw [e', some_bind]
    cases h2 : pList pMark 3 b1 [] with
    | none =>
      rw [h2] at hx
      obtain ⟨y, rfl⟩ := hx
      exact ⟨_, rfl, _, rfl⟩
    | some p =>
      obtain ⟨mk, b2⟩ := p
      rw [h2] at hx
      simp only at hx
      subst hx
      have hb2 := pMarks_len _ _ _ _ _ h2
      simp only [alt_inr, some_bind]
      obtain ⟨x, e, hx⟩ := rfiles b v1 mk 6 0 b2 [] fuel rfl (fuel_gt (by omega)) (by simp) (by omega)
      have e' : image_reader_read_l1 fuel b 0 ⟨b2⟩ (TState.mk [] mk v1) = some x := e
      rw [e', some_bind]
      cases h3 : pList pFile 6 b2 [] with
      | none =>
        rw [h3] at hx
        rcases hx with ⟨y, rfl⟩ | ⟨y, rfl⟩
        · exact ⟨_, rfl, _, rfl⟩
        · exact ⟨_, rfl, _, rfl⟩
      | some p =>
        obtain ⟨fl, b3⟩ := p
        rw [h3] at hx
        simp only at hx
        subst hx
        exact ⟨_, rfl, _, rfl⟩

/-! What was put is read -/
theorem pMark_enc {B : Int} {m : TMark} (h : markOk B m) (hB : B ≤ 1073741824) (s : List UInt8) : pMark (encM m ++ s) = some (m, s) := by
  obtain ⟨a0, a1, b0, b1, c0, c1, d0, d1⟩ := h
  unfold pMark encM
  simp only [List.append_assoc]
  rw [num4 a0 (by omega), some_bind]
  simp only
  rw [num1 b0 (by omega), some_bind]
  simp only
  rw [num1 c0 (by omega), some_bind]
  simp only
  rw [num4 d0 (by omega), some_bind]

theorem textN_pad (n : Nat) (t s : List UInt8) (h : t.length ≤ n) (hn : n ≤ 100) : textN (n + 1) (padT n t ++ s) = some (t, s) := by
  unfold textN
  have hl := padT_len h
  have e : text (padT n t ++ s) = some (t, List.replicate (n - t.length) 0 ++ s) := by
    unfold padT
    rw [List.append_assoc]
    exact text_txt t _ (by omega)
  rw [e, some_bind]
  simp only
  rw [if_pos ⟨by omega, by rw [List.length_append]; omega⟩]
  have : (padT n t ++ s).drop (n + 1) = s := by rw [List.drop_append_of_le_length (by omega), List.drop_of_length_le (by omega)]; rfl
  rw [this]

theorem pFile_enc {f : TFile} (h : fileOk f) (s : List UInt8) : pFile (encF f ++ s) = some (f, s) := by
  unfold pFile encF
  simp only [List.append_assoc]
  rw [textN_pad 8 f.Name _ h.name (by omega), some_bind]
  simp only
  rw [num4 h.ver.1 (by have := h.ver.2; omega), some_bind]
  simp only
  rw [textN_pad 24 f.Body _ h.body (by omega), some_bind]

theorem pList_enc {A : Type} (p : List UInt8 → Option (A × List UInt8)) (g : A → List UInt8) : ∀ (l acc : List A) (s : List UInt8), (∀ x ∈ l, ∀ s, p (g x ++ s) = some (x, s)) → pList p l.length ((l.map g).flatten ++ s) acc = some (acc ++ l, s)
  | [], acc, s, _ => by simp [pList]
  | x :: r, acc, s, h => by
    rw [List.map_cons, List.flatten_cons, List.append_assoc, List.length_cons, pList, h x (List.mem_cons_self ..), some_bind]
    simp only
    rw [pList_enc p g r _ s (fun y hy => h y (List.mem_cons_of_mem _ hy)), List.append_assoc]
    rfl

theorem pState_enc {s : TState} (h : Good 1073741824 s) (r : List UInt8) : pState (enc s ++ r) = some s := by
  unfold pState enc
  simp only [List.append_assoc]
  rw [num4 h.e0 (by have := h.e1; omega), some_bind]
  simp only
  have h1 := pList_enc pMark encM s.Marks [] ((s.Files.map encF).flatten ++ r) (fun m hm s => pMark_enc (h.ms m hm) (Int.le_refl _) s)
  rw [h.nm] at h1
  rw [h1, some_bind]
  simp only
  have h2 := pList_enc pFile encF s.Files [] r (fun f hf s => pFile_enc (h.fs f hf) s)
  rw [h.nf] at h2
  rw [h2, some_bind]
  rfl
end Go.Proofs.Ythefogjlenmgfaa.N

set_option linter.unusedVariables false
set_option linter.unusedSimpArgs false
namespace Go.Proofs.Ythefogjlenmgfaa.N
open Go

theorem joinL_flat (l : List (List UInt8)) : joinL l [] = l.flatten := by
  unfold joinL
  induction l with
  | nil => rfl
  | cons x r ih =>
    cases r with
    | nil => simp [List.intercalate]
    | cons y r =>
      rw [List.flatten_cons, ← ih]
      simp [List.intercalate, List.intersperse]

theorem range_flat (b : List UInt8) : ∀ n, ((List.range n).map (chunkS b)).flatten = b.take (32 * n)
  | 0 => by simp
  | n + 1 => by
    rw [List.range_succ, List.map_append, List.flatten_append, range_flat b n, List.map_cons, List.map_nil, List.flatten_cons, List.flatten_nil, List.append_nil]
    unfold chunkS
    rw [show 32 * (n + 1) = 32 * n + 32 by omega, List.take_add]
theorem chunk_flat (b : List UInt8) : (chunkL b).flatten = b := by
  unfold chunkL
  rw [range_flat, List.take_of_length_le (by omega)]

theorem img_inj {g h : TState} (hg : Good 1073741824 g) (hh : Good 1073741824 h) (e : img g = img h) : g = h := by
  have e2 := congrArg List.flatten e
  unfold img at e2
  rw [chunk_flat, chunk_flat] at e2
  have h1 := pState_enc hg (List.replicate 26 0)
  rw [e2, pState_enc hh] at h1
  exact (Option.some.inj h1).symm

def taken (l : List (List UInt8)) (r : TState × Bool) : Prop :=
  (∃ g, Good 1073741824 g ∧ img g = l ∧ r = (g, true)) ∨ ((∀ g, Good 1073741824 g → img g ≠ l) ∧ r = (⟨[], [], 0⟩, false))
theorem taken_one {l : List (List UInt8)} {r s : TState × Bool} (h : taken l r) (h2 : taken l s) : r = s := by
  rcases h with ⟨g, a, b, rfl⟩ | ⟨a, rfl⟩ <;> rcases h2 with ⟨k, c, d, rfl⟩ | ⟨c, rfl⟩
  · rw [img_inj a c (b.trans d.symm)]
  · exact absurd b (c g a)
  · exact absurd d (a k c)
  · rfl

theorem putI_bad {s : TState} (h : ¬ Good 1073741824 s) : putI s = [] := by unfold putI; rw [if_neg h]

theorem Take_ok (l : List (List UInt8)) (hl : l.length ≤ 1000) (hf : l.flatten.length ≤ lim) : ∃ r, image_Take fuel l = some r ∧ taken l r := by
  unfold image_Take image_Take_k joinOk
  rw [joinL_flat, decide_eq_true hf]
  simp only [cond_true]
  obtain ⟨r, e, hr⟩ := read_ok l.flatten hf
  rw [e, some_bind]
  have hno : pState l.flatten = none → ∀ g, Good 1073741824 g → img g ≠ l := by
    intro h g hg hi
    have e2 := congrArg List.flatten hi
    unfold img at e2
    rw [chunk_flat] at e2
    rw [← e2, pState_enc hg] at h
    cases h
  cases hp : pState l.flatten with
  | none =>
    rw [hp] at hr
    obtain ⟨y, rfl⟩ := hr
    simp only [alt_inr]
    cases y with
    | inl a => exact ⟨_, rfl, .inr ⟨hno hp, rfl⟩⟩
    | inr a => exact ⟨_, rfl, .inr ⟨hno hp, rfl⟩⟩
  | some s =>
    rw [hp] at hr
    obtain ⟨y, rfl⟩ := hr
    simp only [alt_inl]
    have hs := pState_names hp
    have hthe : ∀ g, Good 1073741824 g → img g = l → g = s := by
      intro g hg hi
      have e2 := congrArg List.flatten hi
      unfold img at e2
      rw [chunk_flat] at e2
      rw [← e2, pState_enc hg] at hp
      exact Option.some.inj hp
    obtain ⟨b, eb, hb⟩ := May_ok s hs
    rw [eb, some_bind]
    cases b with
    | false =>
      refine ⟨_, rfl, .inr ⟨fun g hg hi => ?_, rfl⟩⟩
      have := hb.2 (hthe g hg hi ▸ hg)
      cases this
    | true =>
      have hg := hb.1 rfl
      simp only [Bool.not_true, cond_false]
      rw [Put_ok s hs, some_bind, putI_good hg, EqualT_ok _ _ (by rw [img_len hg]; omega), some_bind]
      by_cases hi : img s = l
      · rw [beq_of hi]
        exact ⟨_, rfl, .inl ⟨s, hg, hi, rfl⟩⟩
      · rw [beq_ne hi]
        exact ⟨_, rfl, .inr ⟨fun g hg2 hi2 => hi (hthe g hg2 hi2 ▸ hi2), rfl⟩⟩

/-! The document -/
theorem join_loop (l : List (List UInt8)) (hl : l.length ≤ 1000) (hf : l.flatten.length ≤ lim) (o : TState) : ∃ r, ref7_TakeImage_l0 fuel l [] 0 o = some r ∧ r.1 = l.flatten := by
  unfold ref7_TakeImage_l0
  exact iter_inv (step := ref7_TakeImage_s0 l) (fun k v => ∃ i : Nat, v.2.1 = (i : Int) ∧ i + k = l.length ∧ v.1 = (l.take i).flatten) (fun r => r.1 = l.flatten) (fun k v hI => by
    obtain ⟨v1, v2, v3⟩ := v
    obtain ⟨i, h1, hk, h2⟩ := hI
    simp only at h1 h2
    subst h1 h2
    simp only [ref7_TakeImage_s0, ref7_TakeImage_s0k]
    by_cases hlt : i < l.length
    · have hs : (l.take (i + 1)).flatten = (l.take i).flatten ++ l[i] := by
        rw [List.take_add_one, List.getElem?_eq_getElem hlt]
        simp only [Option.toList, List.flatten_append, List.flatten_cons, List.flatten_nil, List.append_nil]
      have hle : (l.take (i + 1)).flatten.length ≤ l.flatten.length := by
        conv => rhs; rw [← List.take_append_drop (i + 1) l]
        rw [List.flatten_append, List.length_append]; omega
      rw [hs, List.length_append] at hle
      rw [lt_dec hlt, inR_nat hlt, Int.toNat_natCast, List.getElem?_eq_getElem hlt]
      simp only [cond_true, some_bind]
      rw [decide_eq_true (show (l.take i).flatten.length + l[i].length ≤ lim by omega), wi64_succ (by omega)]
      exact ⟨_, rfl, k - 1, by omega, i + 1, rfl, by omega, hs.symm⟩
    · obtain rfl : i = l.length := by omega
      rw [ge_dec]
      exact ⟨_, rfl, by rw [List.take_length]; rfl⟩) l.length ([], 0, o) fuel ⟨0, rfl, by omega, rfl⟩ (fuel_gt (by omega))

theorem Home_ok : ref7_Home fuel = some 9 := by
  unfold ref7_Home ref7_Home_k
  have := PutImage_ok newState (good_names new_ok)
  rw [putI_good (new_ok.mono (by omega))] at this
  have e : ref7_PutImage fuel (TState.mk [(TFile.mk [] 0 []), (TFile.mk [] 0 []), (TFile.mk [] 0 []), (TFile.mk [] 0 []), (TFile.mk [] 0 []), (TFile.mk [] 0 [])] [(TMark.mk 0 0 0 0), (TMark.mk 0 0 0 0), (TMark.mk 0 0 0 0)] 0) = some (img newState) := this
  rw [e, some_bind, img_len new_ok]
  rfl

theorem rtake (b : List UInt8) (h : 4 ≤ b.length) : ref1_Take fuel b 4 = some (val (b.take 4), true) := by
  have := ref1_Take_ok b 4 (by omega) (by omega)
  rw [show ((4 : Nat) : Int) = 4 from rfl] at this
  rw [this]
  unfold num
  rw [if_neg (by omega)]
theorem drop_cut {α : Type} (b : List α) (k : Nat) (n : Int) (h : n = (k : Int)) : cutL b n (b.length : Int) = b.drop k := by subst h; exact cut_back b k

/-- A mark, read by the document. -/
def dMark (b : List UInt8) : TMark := ⟨val (b.take 4), i8 (b[4]?.getD 0), i8 (b[5]?.getD 0), val ((b.drop 6).take 4)⟩
theorem be4_eq (v : Int) : be 4 v = [byteAt v 3, byteAt v 2, byteAt v 1, byteAt v 0] := rfl
theorem be1_eq (v : Int) : be 1 v = [byteAt v 0] := rfl
theorem i8_be1 {v : Int} (h : 0 ≤ v) (h2 : v < 256) : i8 (byteAt v 0) = v := by
  rw [i8_byteAt h 0 (by omega)]
  simp only [Int.pow_zero, Int.ediv_one]
  omega

theorem dMark_enc {B : Int} {m : TMark} (h : markOk B m) (hB : B ≤ 1073741824) (s : List UInt8) : dMark (encM m ++ s) = m ∧ (encM m ++ s).drop 10 = s := by
  obtain ⟨a0, a1, b0, b1, c0, c1, d0, d1⟩ := h
  obtain ⟨q, e, f, v⟩ := m
  simp only at a0 a1 b0 b1 c0 c1 d0 d1
  refine ⟨?_, ?_⟩
  · have h1 : (encM ⟨q, e, f, v⟩ ++ s).take 4 = be 4 q := by
      unfold encM; simp only [be4_eq, be1_eq, List.append_assoc]; rfl
    have h2 : (encM ⟨q, e, f, v⟩ ++ s)[4]? = some (byteAt e 0) := by
      unfold encM; simp only [be4_eq, be1_eq, List.append_assoc]; rfl
    have h3 : (encM ⟨q, e, f, v⟩ ++ s)[5]? = some (byteAt f 0) := by
      unfold encM; simp only [be4_eq, be1_eq, List.append_assoc]; rfl
    have h4 : ((encM ⟨q, e, f, v⟩ ++ s).drop 6).take 4 = be 4 v := by
      unfold encM; simp only [be4_eq, be1_eq, List.append_assoc]; rfl
    unfold dMark
    rw [h1, h2, h3, h4, val_be4 a0 (by omega), val_be4 d0 (by omega)]
    simp only [Option.getD_some]
    rw [i8_be1 b0 (by omega), i8_be1 c0 (by omega)]
  · rw [List.drop_append_of_le_length (by rw [encM_len]; exact Nat.le_refl _), List.drop_of_length_le (by rw [encM_len]; exact Nat.le_refl _)]
    rfl

theorem dmarks (l : List (List UInt8)) (r1 : List UInt8) (G : TState → Prop) (T : TState → List UInt8) (B0 : List UInt8) (hB : B0.length = 284) (E : Int) (o : TState)
    (hG : ∀ g, G g → Good 1073741824 g ∧ B0 = (g.Marks.map encM).flatten ++ T g) :
    ∃ r, ref7_TakeImage_l1 fuel l r1 B0 0 o ⟨newState.Files, newState.Marks, E⟩ = some r ∧ r.1.length = 254 ∧ r.2.2.Files = newState.Files ∧ r.2.2.Epoch = E ∧ ∀ g, G g → r.1 = T g ∧ r.2.2.Marks = g.Marks := by
  unfold ref7_TakeImage_l1
  exact iter_inv (step := ref7_TakeImage_s1 fuel l r1) (fun k v => ∃ i : Nat, v.2.1 = (i : Int) ∧ i + k = 3 ∧ v.1.length = 284 - 10 * i ∧ v.2.2.2.Files = newState.Files ∧ v.2.2.2.Epoch = E ∧ v.2.2.2.Marks.length = 3 ∧ ∀ g, G g → v.1 = ((g.Marks.drop i).map encM).flatten ++ T g ∧ v.2.2.2.Marks.take i = g.Marks.take i)
    (fun r => r.1.length = 254 ∧ r.2.2.Files = newState.Files ∧ r.2.2.Epoch = E ∧ ∀ g, G g → r.1 = T g ∧ r.2.2.Marks = g.Marks) (fun k v hI => by
    obtain ⟨b, v2, o, s⟩ := v
    obtain ⟨i, h1, hk, h2, h3, h4, h5, h6⟩ := hI
    simp only at h1 h2 h3 h4 h5 h6
    subst h1
    simp only [ref7_TakeImage_s1, ref7_TakeImage_s1k]
    by_cases hlt : i < 3
    · have hlm : i < s.Marks.length := by omega
      have g4 : 4 < b.length := by omega
      have g5 : 5 < b.length := by omega
      rw [decide_eq_true (show (i : Int) < 3 by omega), inR_nat hlm, rtake _ (by omega)]
      simp only [cond_true, some_bind]
      rw [Int.toNat_natCast, List.getElem?_eq_getElem hlm, some_bind, inR_of (by omega) (by omega), List.getElem?_eq_getElem g4]
      simp only [cond_true, some_bind]
      rw [List.getElem?_set_self hlm, some_bind, inR_of (by omega) (by omega), List.getElem?_eq_getElem g5]
      simp only [cond_true, some_bind]
      rw [List.set_set, List.getElem?_set_self hlm, some_bind, cutOk_of (by omega) (by omega) (by omega), drop_cut b 6 6 rfl, rtake _ (by rw [List.length_drop]; omega)]
      simp only [cond_true, some_bind]
      rw [List.set_set, List.getElem?_set_self hlm, some_bind, cutOk_of (by omega) (by omega) (by omega), drop_cut b 10 10 rfl, List.set_set]
      have hx0 := i8_lo b[4]
      have hx1 := i8_hi b[4]
      have hy0 := i8_lo b[5]
      have hy1 := i8_hi b[5]
      rw [wi64_of (show -9223372036854775808 ≤ i8 b[4] by omega) (by omega), wi64_of (show -9223372036854775808 ≤ i8 b[5] by omega) (by omega), wi64_succ (by omega)]
      have hd : (⟨val (b.take 4), i8 b[4], i8 b[5], val ((b.drop 6).take 4)⟩ : TMark) = dMark b := by
        unfold dMark
        rw [List.getElem?_eq_getElem g4, List.getElem?_eq_getElem g5]
        rfl
      refine ⟨_, rfl, k - 1, by omega, i + 1, rfl, by omega, by show (b.drop 10).length = _; rw [List.length_drop]; omega, h3, h4, by show (s.Marks.set i _).length = 3; rw [List.length_set]; exact h5, fun g hg => ?_⟩
      obtain ⟨h7, h8⟩ := h6 g hg
      obtain ⟨hgood, _⟩ := hG g hg
      have hlg : i < g.Marks.length := by rw [hgood.nm]; exact hlt
      have hdr : g.Marks.drop i = g.Marks[i] :: g.Marks.drop (i + 1) := List.drop_eq_getElem_cons hlg
      rw [hdr, List.map_cons, List.flatten_cons, List.append_assoc] at h7
      obtain ⟨e1, e2⟩ := dMark_enc (hgood.ms _ (List.getElem_mem hlg)) (Int.le_refl _) (((g.Marks.drop (i + 1)).map encM).flatten ++ T g)
      rw [← h7] at e1 e2
      refine ⟨e2, ?_⟩
      show (s.Marks.set i _).take (i + 1) = _
      rw [hd, e1, List.take_add_one, List.getElem?_set_self hlm, List.take_set_of_le (Nat.le_refl _), h8, List.take_add_one, List.getElem?_eq_getElem hlg]
    · obtain rfl : i = 3 := by omega
      refine ⟨_, rfl, by show b.length = 254; omega, h3, h4, fun g hg => ?_⟩
      obtain ⟨h7, h8⟩ := h6 g hg
      have hgm := (hG g hg).1.nm
      rw [List.drop_of_length_le (by omega)] at h7
      rw [List.take_of_length_le (by omega), List.take_of_length_le (by omega)] at h8
      exact ⟨h7, h8⟩) 3 (B0, 0, o, ⟨newState.Files, newState.Marks, E⟩) fuel ⟨0, rfl, rfl, hB, rfl, rfl, rfl, fun g hg => ⟨(hG g hg).2, rfl⟩⟩ (fuel_gt (by omega))
end Go.Proofs.Ythefogjlenmgfaa.N

set_option linter.unusedVariables false
set_option linter.unusedSimpArgs false
namespace Go.Proofs.Ythefogjlenmgfaa.N
open Go

def dFile (b : List UInt8) : TFile := ⟨(b.drop 1).take (min (b[0]?.getD 0).toNat 8), val ((b.drop 9).take 4), (b.drop 14).take (min (b[13]?.getD 0).toNat 24)⟩

theorem b8_nat {n : Nat} (h : n ≤ 255) : (b8 (n : Int)).toNat = n := by
  have := i8_b8 (n := (n : Int)) (by omega) (by omega)
  unfold i8 at this
  omega

theorem dFile_enc {f : TFile} (h : fileOk f) (s : List UInt8) : dFile (encF f ++ s) = f ∧ (encF f ++ s).drop 38 = s := by
  have hn := h.name
  have hb := h.body
  have hv := h.ver
  refine ⟨?_, by rw [List.drop_append_of_le_length (by rw [encF_len h]; exact Nat.le_refl _), List.drop_of_length_le (by rw [encF_len h]; exact Nat.le_refl _)]; rfl⟩
  obtain ⟨n, v, bd⟩ := f
  simp only at hn hb hv
  obtain ⟨X, hX⟩ : ∃ X, encF ⟨n, v, bd⟩ ++ s = X := ⟨_, rfl⟩
  have e0 : X = b8 (n.length : Int) :: (n ++ (List.replicate (8 - n.length) 0 ++ (be 4 v ++ (padT 24 bd ++ s)))) := by
    rw [← hX]; unfold encF padT txt; simp only [List.append_assoc, List.cons_append]
  have e9 : X.drop 9 = be 4 v ++ (padT 24 bd ++ s) := by
    have : X = padT 8 n ++ (be 4 v ++ (padT 24 bd ++ s)) := by rw [← hX]; unfold encF; simp only [List.append_assoc]
    rw [this, List.drop_append_of_le_length (by rw [padT_len hn]; exact Nat.le_refl _), List.drop_of_length_le (by rw [padT_len hn]; exact Nat.le_refl _)]
    rfl
  have e13 : X.drop 13 = b8 (bd.length : Int) :: (bd ++ (List.replicate (24 - bd.length) 0 ++ s)) := by
    rw [show (13 : Nat) = 9 + 4 from rfl, ← List.drop_drop, e9, be4_eq]
    unfold padT txt
    simp only [List.append_assoc, List.cons_append]
    rfl
  have e14 : X.drop 14 = bd ++ (List.replicate (24 - bd.length) 0 ++ s) := by
    rw [show (14 : Nat) = 13 + 1 from rfl, ← List.drop_drop, e13]
    rfl
  have f0 : X[0]? = some (b8 (n.length : Int)) := by rw [e0]; rfl
  have f13 : X[13]? = some (b8 (bd.length : Int)) := by
    have := List.getElem?_drop (xs := X) (i := 13) (j := 0)
    rw [e13] at this
    simpa using this.symm
  have e1 : X.drop 1 = n ++ (List.replicate (8 - n.length) 0 ++ (be 4 v ++ (padT 24 bd ++ s))) := by rw [e0]; rfl
  rw [hX]
  unfold dFile
  rw [f0, f13, e1, e9, e14]
  simp only [Option.getD_some]
  rw [b8_nat (by omega), b8_nat (by omega), Nat.min_eq_left hn, Nat.min_eq_left hb, List.take_append_of_le_length (Nat.le_refl _), List.take_length, List.take_append_of_le_length (Nat.le_refl _), List.take_length]
  have : (be 4 v ++ (padT 24 bd ++ s)).take 4 = be 4 v := by rw [be4_eq]; rfl
  rw [this, val_be4 hv.1 (by omega)]

theorem imin_nat (x : UInt8) (k : Nat) : imin (i8 x) (k : Int) = ((min x.toNat k : Nat) : Int) := by
  unfold imin i8
  split <;> omega

theorem cut_from (b : List UInt8) (i : Nat) (x : UInt8) (k : Nat) (hk : k ≤ 100) (hi : i ≤ 100) : cutL b (i : Int) (wi64 ((i : Int) + imin (wi64 (i8 x)) (k : Int))) = (b.drop i).take (min x.toNat k) := by
  have h0 := i8_lo x
  have h1 := i8_hi x
  rw [wi64_of (show -9223372036854775808 ≤ i8 x by omega) (by omega), imin_nat, wi64_of (by omega) (by omega), show (i : Int) + ((min x.toNat k : Nat) : Int) = ((i + min x.toNat k : Nat) : Int) by omega, cut_mid]
theorem cut_from_ok (i : Nat) (x : UInt8) (k n : Nat) (hk : k ≤ 100) (hi : i ≤ 100) (hn : i + k ≤ n) : cutOk (i : Int) (wi64 ((i : Int) + imin (wi64 (i8 x)) (k : Int))) n = true := by
  have h0 := i8_lo x
  have h1 := i8_hi x
  rw [wi64_of (show -9223372036854775808 ≤ i8 x by omega) (by omega), imin_nat, wi64_of (by omega) (by omega)]
  exact cutOk_of (by omega) (by omega) (by omega)

theorem new_names : ∀ f ∈ newState.Files, f.Name.length ≤ 8 := by decide
theorem ne_int {n : Nat} {k : Int} (h : (n : Int) ≠ k) : ((n : Int) != k) = true := by simp [h]
theorem eq_int {n : Nat} {k : Int} (h : (n : Int) = k) : ((n : Int) != k) = false := by simp [h]

theorem dfiles (l : List (List UInt8)) (r1 : List UInt8) (G : TState → Prop) (T : TState → List UInt8) (B0 : List UInt8) (hB : B0.length = 254) (E : Int) (MK : List TMark) (o : TState)
    (hG : ∀ g, G g → Good 1073741824 g ∧ B0 = (g.Files.map encF).flatten ++ T g) :
    ∃ r, ref7_TakeImage_l2 fuel l r1 B0 0 o ⟨newState.Files, MK, E⟩ = some r ∧ (∀ f ∈ r.2.Files, f.Name.length ≤ 8) ∧ r.2.Marks = MK ∧ r.2.Epoch = E ∧ ∀ g, G g → r.2.Files = g.Files := by
  unfold ref7_TakeImage_l2
  exact iter_inv (step := ref7_TakeImage_s2 fuel l r1) (fun k v => ∃ i : Nat, v.2.1 = (i : Int) ∧ i + k = 6 ∧ v.1.length = 254 - 38 * i ∧ v.2.2.2.Files.length = 6 ∧ (∀ f ∈ v.2.2.2.Files, f.Name.length ≤ 8) ∧ v.2.2.2.Epoch = E ∧ v.2.2.2.Marks = MK ∧ ∀ g, G g → v.1 = ((g.Files.drop i).map encF).flatten ++ T g ∧ v.2.2.2.Files.take i = g.Files.take i)
    (fun r => (∀ f ∈ r.2.Files, f.Name.length ≤ 8) ∧ r.2.Marks = MK ∧ r.2.Epoch = E ∧ ∀ g, G g → r.2.Files = g.Files) (fun k v hI => by
    obtain ⟨b, v2, o, s⟩ := v
    obtain ⟨i, h1, hk, h2, h3, h3n, h4, h5, h6⟩ := hI
    simp only at h1 h2 h3 h3n h4 h5 h6
    subst h1
    simp only [ref7_TakeImage_s2, ref7_TakeImage_s2k]
    by_cases hlt : i < 6
    · have hlm : i < s.Files.length := by omega
      have g0 : 0 < b.length := by omega
      have g13 : 13 < b.length := by omega
      have k1 : cutOk 1 (wi64 ((1 : Int) + imin (wi64 (i8 b[0])) (8 : Int))) b.length = true := cut_from_ok 1 b[0] 8 b.length (by omega) (by omega) (by omega)
      have k2 : cutL b 1 (wi64 ((1 : Int) + imin (wi64 (i8 b[0])) (8 : Int))) = (b.drop 1).take (min b[0].toNat 8) := cut_from b 1 b[0] 8 (by omega) (by omega)
      have k3 : cutOk 14 (wi64 ((14 : Int) + imin (wi64 (i8 b[13])) (24 : Int))) b.length = true := cut_from_ok 14 b[13] 24 b.length (by omega) (by omega) (by omega)
      have k4 : cutL b 14 (wi64 ((14 : Int) + imin (wi64 (i8 b[13])) (24 : Int))) = (b.drop 14).take (min b[13].toNat 24) := cut_from b 14 b[13] 24 (by omega) (by omega)
      rw [decide_eq_true (show (i : Int) < 6 by omega), inR_nat hlm, inR_of (by omega) (by omega), List.getElem?_eq_getElem g0]
      simp only [cond_true, some_bind]
      rw [k1, Int.toNat_natCast, List.getElem?_eq_getElem hlm]
      simp only [cond_true, some_bind]
      rw [cutOk_of (by omega) (by omega) (by omega), drop_cut b 9 9 rfl, rtake _ (by rw [List.length_drop]; omega)]
      simp only [cond_true, some_bind]
      rw [List.getElem?_set_self hlm, some_bind, inR_of (by omega) (by omega), List.getElem?_eq_getElem g13]
      simp only [cond_true, some_bind]
      rw [k3, List.set_set, List.getElem?_set_self hlm]
      simp only [cond_true, some_bind]
      rw [cutOk_of (by omega) (by omega) (by omega), drop_cut b 38 38 rfl, List.set_set, k2, k4, wi64_succ (by omega)]
      have hd : (⟨(b.drop 1).take (min b[0].toNat 8), val ((b.drop 9).take 4), (b.drop 14).take (min b[13].toNat 24)⟩ : TFile) = dFile b := by
        unfold dFile
        rw [List.getElem?_eq_getElem g0, List.getElem?_eq_getElem g13]
        rfl
      refine ⟨_, rfl, k - 1, by omega, i + 1, rfl, by omega, by show (b.drop 38).length = _; rw [List.length_drop]; omega, by show (s.Files.set i _).length = 6; rw [List.length_set]; exact h3, fun f hf => ?_, h4, h5, fun g hg => ?_⟩
      · rcases List.mem_or_eq_of_mem_set hf with hf | rfl
        · exact h3n f hf
        · show ((b.drop 1).take _).length ≤ 8
          rw [List.length_take]; omega
      · obtain ⟨h7, h8⟩ := h6 g hg
        obtain ⟨hgood, _⟩ := hG g hg
        have hlg : i < g.Files.length := by rw [hgood.nf]; exact hlt
        have hdr : g.Files.drop i = g.Files[i] :: g.Files.drop (i + 1) := List.drop_eq_getElem_cons hlg
        rw [hdr, List.map_cons, List.flatten_cons, List.append_assoc] at h7
        obtain ⟨e1, e2⟩ := dFile_enc (hgood.fs _ (List.getElem_mem hlg)) (((g.Files.drop (i + 1)).map encF).flatten ++ T g)
        rw [← h7] at e1 e2
        refine ⟨e2, ?_⟩
        show (s.Files.set i _).take (i + 1) = _
        rw [hd, e1, List.take_add_one, List.getElem?_set_self hlm, List.take_set_of_le (Nat.le_refl _), h8, List.take_add_one, List.getElem?_eq_getElem hlg]
    · obtain rfl : i = 6 := by omega
      refine ⟨_, rfl, h3n, h5, h4, fun g hg => ?_⟩
      obtain ⟨h7, h8⟩ := h6 g hg
      have hgm := (hG g hg).1.nf
      rw [List.take_of_length_le (by omega), List.take_of_length_le (by omega)] at h8
      exact h8) 6 (B0, 0, o, ⟨newState.Files, MK, E⟩) fuel ⟨0, rfl, rfl, hB, rfl, new_names, rfl, rfl, fun g hg => ⟨(hG g hg).2, rfl⟩⟩ (fuel_gt (by omega))

theorem rTake_ok (l : List (List UInt8)) (hl : l.length ≤ 1000) (hf : l.flatten.length ≤ lim) : ∃ r, ref7_TakeImage fuel l = some r ∧ taken l r := by
  unfold ref7_TakeImage ref7_TakeImage_k
  obtain ⟨r, e, hr⟩ := join_loop l hl hf (TState.mk [] [] 0)
  rw [e, some_bind, Home_ok, some_bind, hr]
  by_cases h9 : l.length ≠ 9
  · rw [show ((l.length : Int) != 9) = true by simp; omega]
    exact ⟨_, rfl, .inr ⟨fun g hg hi => h9 (by rw [← hi, img_len hg]), rfl⟩⟩
  have h9 : l.length = 9 := Decidable.of_not_not h9
  rw [show ((l.length : Int) != 9) = false by simp; omega]
  simp only [cond_false, some_bind]
  rw [show wi64 (9 * 32) = 288 by rw [wi64_of (by omega) (by omega)]; rfl]
  have hall : ∀ g, Good 1073741824 g → img g = l → l.flatten = enc g ++ List.replicate 26 0 := by
    intro g hg hi
    rw [← hi]
    unfold img
    rw [chunk_flat]
  by_cases h8 : l.flatten.length ≠ 288
  · rw [ne_int (show (l.flatten.length : Int) ≠ 288 by omega)]
    exact ⟨_, rfl, .inr ⟨fun g hg hi => h8 (by rw [hall g hg hi, List.length_append, enc_len hg, List.length_replicate]), rfl⟩⟩
  have h8 : l.flatten.length = 288 := Decidable.of_not_not h8
  rw [eq_int (show (l.flatten.length : Int) = 288 by omega)]
  simp only [cond_false]
  rw [rtake _ (by omega), some_bind, cutOk_of (by omega) (by omega) (by omega), drop_cut l.flatten 4 4 rfl]
  simp only [cond_true]
  have hhead : ∀ g, Good 1073741824 g → img g = l → l.flatten.drop 4 = (g.Marks.map encM).flatten ++ ((g.Files.map encF).flatten ++ List.replicate 26 0) ∧ val (l.flatten.take 4) = g.Epoch := by
    intro g hg hi
    rw [hall g hg hi]
    unfold enc
    simp only [List.append_assoc, be4_eq]
    refine ⟨rfl, ?_⟩
    show val [byteAt g.Epoch 3, byteAt g.Epoch 2, byteAt g.Epoch 1, byteAt g.Epoch 0] = _
    rw [← be4_eq]
    exact val_be4 hg.e0 (by have := hg.e1; omega)
  obtain ⟨r5, e5, a5, b5, c5, d5⟩ := dmarks l l.flatten (fun g => Good 1073741824 g ∧ img g = l) (fun g => (g.Files.map encF).flatten ++ List.replicate 26 0) (l.flatten.drop 4) (by rw [List.length_drop]; omega) (val (l.flatten.take 4)) (TState.mk [] [] r.2.Epoch)
    (fun g hg => ⟨hg.1, (hhead g hg.1 hg.2).1⟩)
  have e5' : ref7_TakeImage_l1 fuel l l.flatten (l.flatten.drop 4) 0 (TState.mk [] [] r.2.Epoch) (TState.mk [(TFile.mk [] 0 []), (TFile.mk [] 0 []), (TFile.mk [] 0 []), (TFile.mk [] 0 []), (TFile.mk [] 0 []), (TFile.mk [] 0 [])] [(TMark.mk 0 0 0 0), (TMark.mk 0 0 0 0), (TMark.mk 0 0 0 0)] (val (l.flatten.take 4))) = some r5 := e5
  rw [e5', some_bind]
  obtain ⟨q1, q2, ⟨qf, qm, qe⟩⟩ := r5
  simp only at a5 b5 c5 d5
  subst b5 c5
  obtain ⟨r6, e6, a6, b6, c6, d6⟩ := dfiles l l.flatten (fun g => Good 1073741824 g ∧ img g = l) (fun g => List.replicate 26 0) q1 a5 (val (l.flatten.take 4)) qm (TState.mk [] [] q2.Epoch) (fun g hg => ⟨hg.1, (d5 g hg).1⟩)
  simp only
  rw [e6, some_bind]
  have hthe : ∀ g, Good 1073741824 g → img g = l → r6.2 = g := by
    intro g hg hi
    have h1 := d6 g ⟨hg, hi⟩
    have h2 := (d5 g ⟨hg, hi⟩).2
    have h3 := (hhead g hg hi).2
    obtain ⟨o6, ⟨sf, sm, se⟩⟩ := r6
    obtain ⟨gf, gm, ge⟩ := g
    simp only at h1 h2 h3 b6 c6 ⊢
    rw [h1, b6, h2, c6, h3]
  rw [PutImage_ok r6.2 (fun f hf => by have := a6 f hf; omega), some_bind]
  by_cases hg : Good 1073741824 r6.2
  · rw [putI_good hg, SameTexts_ok _ _ (by rw [img_len hg]; omega), some_bind]
    by_cases hi : img r6.2 = l
    · rw [beq_of hi]
      exact ⟨_, rfl, .inl ⟨_, hg, hi, rfl⟩⟩
    · rw [beq_ne hi]
      exact ⟨_, rfl, .inr ⟨fun g h1 h2 => hi (by rw [hthe g h1 h2]; exact h2), rfl⟩⟩
  · rw [putI_bad hg, SameTexts_ok _ _ (by simp), some_bind, beq_ne (show [] ≠ l from fun h => by rw [← h] at h9; simp at h9)]
    exact ⟨_, rfl, .inr ⟨fun g h1 h2 => hg (by rw [hthe g h1 h2]; exact h1), rfl⟩⟩
end Go.Proofs.Ythefogjlenmgfaa.N

set_option linter.unusedVariables false
set_option linter.unusedSimpArgs false
namespace Go.Proofs.Ythefogjlenmgfaa.N
open Go

theorem put_eqb (x y : TPut) : TPut.eqb x y = true ↔ x = y := by
  obtain ⟨a, b⟩ := x
  obtain ⟨c, d⟩ := y
  simp [TPut.eqb]

theorem SameMarks_ok (a b : List TMark) (ha : a.length ≤ 1000) : ∃ r, ref7_SameMarks fuel a b = some r ∧ (r = true ↔ a = b) := by
  unfold ref7_SameMarks ref7_SameMarks_k
  by_cases hl : a.length = b.length
  · rw [eq_int (show (a.length : Int) = (b.length : Int) by omega)]
    simp only [cond_false]
    unfold ref7_SameMarks_l0
    obtain ⟨x, e, hx⟩ := iter_inv (step := ref7_SameMarks_s0 a b) (fun k v => ∃ i : Nat, v = (i : Int) ∧ i + k = a.length ∧ a.take i = b.take i) (fun r => Sum.elim (fun _ => a ≠ b) (fun _ => a = b) r) (fun k v hI => by
      obtain ⟨i, rfl, hk, h⟩ := hI
      simp only [ref7_SameMarks_s0, ref7_SameMarks_s0k]
      by_cases hlt : i < a.length
      · have hlt2 : i < b.length := by omega
        rw [lt_dec hlt, inR_nat hlt, inR_nat hlt2, Int.toNat_natCast, List.getElem?_eq_getElem hlt, List.getElem?_eq_getElem hlt2]
        simp only [cond_true, some_bind]
        cases he : TMark.eqb a[i] b[i] with
        | true =>
          have he := (mark_eqb _ _).1 he
          rw [wi64_succ (by omega)]
          refine ⟨_, rfl, k - 1, by omega, i + 1, rfl, by omega, ?_⟩
          rw [List.take_add_one, List.take_add_one, h, List.getElem?_eq_getElem hlt, List.getElem?_eq_getElem hlt2, he]
        | false =>
          refine ⟨_, rfl, fun h => ?_⟩
          subst h
          rw [(mark_eqb _ _).2 rfl] at he
          cases he
      · obtain rfl : i = a.length := by omega
        rw [ge_dec]
        refine ⟨_, rfl, ?_⟩
        rw [List.take_length, hl, List.take_length] at h
        exact h) a.length (0 : Int) fuel ⟨0, rfl, by omega, rfl⟩ (fuel_gt (by omega))
    rw [e, some_bind]
    cases x with
    | inl u => exact ⟨false, rfl, ⟨fun h => (by cases h), fun h => absurd h hx⟩⟩
    | inr u => exact ⟨true, rfl, ⟨fun _ => hx, fun _ => rfl⟩⟩
  · rw [ne_int (show (a.length : Int) ≠ (b.length : Int) by omega)]
    exact ⟨false, rfl, ⟨fun h => (by cases h), fun h => absurd (by rw [h]) hl⟩⟩

theorem SameState_ok (a b : TState) (ha : a.Marks.length ≤ 1000) (hf : a.Files.length ≤ 1000) : ∃ r, ref7_SameState fuel a b = some r ∧ (r = true ↔ a = b) := by
  unfold ref7_SameState ref7_SameState_k
  by_cases hl : a.Files.length = b.Files.length
  · rw [eq_int (show (a.Files.length : Int) = (b.Files.length : Int) by omega)]
    simp only [cond_false]
    obtain ⟨r, e, hr⟩ := SameMarks_ok a.Marks b.Marks ha
    rw [e, some_bind]
    cases r with
    | false => exact ⟨false, rfl, ⟨fun h => (by cases h), fun h => by rw [h] at hr; exact hr.2 rfl⟩⟩
    | true =>
      have hm := hr.1 rfl
      simp only [Bool.not_true, cond_false]
      by_cases hE : a.Epoch = b.Epoch
      · rw [show (a.Epoch != b.Epoch) = false by simp [hE]]
        simp only [cond_false]
        unfold ref7_SameState_l0
        obtain ⟨x, e, hx⟩ := iter_inv (step := ref7_SameState_s0 a b) (fun k v => ∃ i : Nat, v = (i : Int) ∧ i + k = a.Files.length ∧ a.Files.take i = b.Files.take i) (fun r => Sum.elim (fun _ => a.Files ≠ b.Files) (fun _ => a.Files = b.Files) r) (fun k v hI => by
          obtain ⟨i, rfl, hk, h⟩ := hI
          simp only [ref7_SameState_s0, ref7_SameState_s0k]
          by_cases hlt : i < a.Files.length
          · have hlt2 : i < b.Files.length := by omega
            rw [lt_dec hlt, inR_nat hlt, inR_nat hlt2, Int.toNat_natCast, List.getElem?_eq_getElem hlt, List.getElem?_eq_getElem hlt2]
            simp only [cond_true, some_bind]
            cases he : TFile.eqb a.Files[i] b.Files[i] with
            | true =>
              have he := (file_eqb _ _).1 he
              rw [wi64_succ (by omega)]
              refine ⟨_, rfl, k - 1, by omega, i + 1, rfl, by omega, ?_⟩
              rw [List.take_add_one, List.take_add_one, h, List.getElem?_eq_getElem hlt, List.getElem?_eq_getElem hlt2, he]
            | false =>
              refine ⟨_, rfl, fun h => ?_⟩
              have : a.Files[i] = b.Files[i] := by simp only [h]
              rw [(file_eqb _ _).2 this] at he
              cases he
          · obtain rfl : i = a.Files.length := by omega
            rw [ge_dec]
            refine ⟨_, rfl, ?_⟩
            rw [List.take_length, hl, List.take_length] at h
            exact h) a.Files.length (0 : Int) fuel ⟨0, rfl, by omega, rfl⟩ (fuel_gt (by omega))
        rw [e, some_bind]
        cases x with
        | inl u => exact ⟨false, rfl, ⟨fun h => (by cases h), fun h => absurd (by rw [h]) hx⟩⟩
        | inr u =>
          refine ⟨true, rfl, ⟨fun _ => ?_, fun _ => rfl⟩⟩
          obtain ⟨f, m, ep⟩ := a
          obtain ⟨f2, m2, ep2⟩ := b
          have hx' : f = f2 := hx
          have hm' : m = m2 := hm
          have hE' : ep = ep2 := hE
          rw [hx', hm', hE']
      · rw [show (a.Epoch != b.Epoch) = true by simp [hE]]
        exact ⟨false, rfl, ⟨fun h => (by cases h), fun h => absurd (by rw [h]) hE⟩⟩
  · rw [ne_int (show (a.Files.length : Int) ≠ (b.Files.length : Int) by omega)]
    exact ⟨false, rfl, ⟨fun h => (by cases h), fun h => absurd (by rw [h]) hl⟩⟩

theorem SamePuts_ok (a b : List TPut) (ha : a.length ≤ 1000) : ∃ r, ref5_SamePuts fuel a b = some r ∧ (r = true ↔ a = b) := by
  unfold ref5_SamePuts ref5_SamePuts_k
  by_cases hl : a.length = b.length
  · rw [eq_int (show (a.length : Int) = (b.length : Int) by omega)]
    simp only [cond_false]
    unfold ref5_SamePuts_l0
    obtain ⟨x, e, hx⟩ := iter_inv (step := ref5_SamePuts_s0 a b) (fun k v => ∃ i : Nat, v = (i : Int) ∧ i + k = a.length ∧ a.take i = b.take i) (fun r => Sum.elim (fun _ => a ≠ b) (fun _ => a = b) r) (fun k v hI => by
      obtain ⟨i, rfl, hk, h⟩ := hI
      simp only [ref5_SamePuts_s0, ref5_SamePuts_s0k]
      by_cases hlt : i < a.length
      · have hlt2 : i < b.length := by omega
        rw [lt_dec hlt, inR_nat hlt, inR_nat hlt2, Int.toNat_natCast, List.getElem?_eq_getElem hlt, List.getElem?_eq_getElem hlt2]
        simp only [cond_true, some_bind]
        cases he : TPut.eqb a[i] b[i] with
        | true =>
          have he := (put_eqb _ _).1 he
          rw [wi64_succ (by omega)]
          refine ⟨_, rfl, k - 1, by omega, i + 1, rfl, by omega, ?_⟩
          rw [List.take_add_one, List.take_add_one, h, List.getElem?_eq_getElem hlt, List.getElem?_eq_getElem hlt2, he]
        | false =>
          refine ⟨_, rfl, fun h => ?_⟩
          subst h
          rw [(put_eqb _ _).2 rfl] at he
          cases he
      · obtain rfl : i = a.length := by omega
        rw [ge_dec]
        refine ⟨_, rfl, ?_⟩
        rw [List.take_length, hl, List.take_length] at h
        exact h) a.length (0 : Int) fuel ⟨0, rfl, by omega, rfl⟩ (fuel_gt (by omega))
    rw [e, some_bind]
    cases x with
    | inl u => exact ⟨false, rfl, ⟨fun h => (by cases h), fun h => absurd h hx⟩⟩
    | inr u => exact ⟨true, rfl, ⟨fun _ => hx, fun _ => rfl⟩⟩
  · rw [ne_int (show (a.length : Int) ≠ (b.length : Int) by omega)]
    exact ⟨false, rfl, ⟨fun h => (by cases h), fun h => absurd (by rw [h]) hl⟩⟩

theorem SameState_self (a : TState) (ha : a.Marks.length ≤ 1000) (hf : a.Files.length ≤ 1000) : ref7_SameState fuel a a = some true := by
  obtain ⟨r, e, hr⟩ := SameState_ok a a ha hf
  rw [e, hr.2 rfl]
theorem SamePuts_self (a : List TPut) (ha : a.length ≤ 1000) : ref5_SamePuts fuel a a = some true := by
  obtain ⟨r, e, hr⟩ := SamePuts_ok a a ha
  rw [e, hr.2 rfl]

theorem flat_le (l : List (List UInt8)) (h : ∀ x ∈ l, x.length ≤ 100) : l.flatten.length ≤ 100 * l.length := by
  induction l with
  | nil => simp
  | cons x r ih =>
    have := ih fun y hy => h y (List.mem_cons_of_mem _ hy)
    have := h x (List.mem_cons_self ..)
    rw [List.flatten_cons, List.length_append, List.length_cons]
    omega

/-- Both read the same. -/
theorem both (l : List (List UInt8)) (hl : l.length ≤ 1000) (h : ∀ x ∈ l, x.length ≤ 100) : ∃ r, image_Take fuel l = some r ∧ ref7_TakeImage fuel l = some r ∧ ref7_SameState fuel r.1 r.1 = some true := by
  have hf : l.flatten.length ≤ lim := by have := flat_le l h; rw [lim_eq]; omega
  obtain ⟨r, e, hr⟩ := Take_ok l hl hf
  obtain ⟨r2, e2, hr2⟩ := rTake_ok l hl hf
  rw [taken_one hr2 hr] at e2
  refine ⟨r, e, e2, ?_⟩
  rcases hr with ⟨g, hg, _, rfl⟩ | ⟨_, rfl⟩
  · exact SameState_self g (by rw [hg.nm]; omega) (by rw [hg.nf]; omega)
  · exact SameState_self _ (by simp) (by simp)

theorem lots_loop (l : List (List UInt8)) (lots : List (List (List UInt8))) (o0 : Ttenancymade_Picks) (o1 : TState) (m : List (List UInt8)) (r3 : List UInt8) (hl : lots.length = 4) (h : ∀ y ∈ lots, y.length ≤ 1000 ∧ ∀ x ∈ y, x.length ≤ 100) : law11_ImageAll_l1 fuel l lots o0 o1 m r3 0 = some (.inr ()) := by
  unfold law11_ImageAll_l1
  obtain ⟨x, e, hx⟩ := iter_inv (step := law11_ImageAll_s1 fuel l lots o0 o1 m r3) (fun k v => ∃ i : Nat, v = (i : Int) ∧ i + k = 4) (fun r => r = .inr ()) (fun k v hI => by
    obtain ⟨i, rfl, hk⟩ := hI
    simp only [law11_ImageAll_s1, law11_ImageAll_s1k]
    by_cases hlt : i < 4
    · have hlt2 : i < lots.length := by omega
      obtain ⟨h1, h2⟩ := h _ (List.getElem_mem hlt2)
      obtain ⟨r, e1, e2, e3⟩ := both _ h1 h2
      rw [decide_eq_true (show (i : Int) < 4 by omega), inR_nat hlt2, Int.toNat_natCast, List.getElem?_eq_getElem hlt2]
      simp only [cond_true, some_bind]
      rw [e1, e2]
      simp only [some_bind]
      rw [beq_self_eq_true, e3, wi64_succ (by omega)]
      exact ⟨_, rfl, k - 1, by omega, i + 1, rfl, by omega⟩
    · obtain rfl : i = 4 := by omega
      exact ⟨_, rfl, rfl⟩) 4 (0 : Int) fuel ⟨0, rfl, rfl⟩ (fuel_gt (by omega))
  rw [e, hx]

theorem wild_loop (p : List UInt8) (a k b : UInt8) (w : List (List UInt8)) (c : UInt8) (hw : w.length ≤ 1000) : ∃ x, law11_ImageAll_l0 fuel p a k b w c 0 = some x ∧ (x = .inl () ∨ x = .inr () ∧ ∀ y ∈ w, y.length ≤ 40) := by
  unfold law11_ImageAll_l0
  exact iter_inv (step := law11_ImageAll_s0 p a k b w c) (fun k v => ∃ i : Nat, v = (i : Int) ∧ i + k = w.length ∧ ∀ y ∈ w.take i, y.length ≤ 40) (fun x => x = .inl () ∨ x = .inr () ∧ ∀ y ∈ w, y.length ≤ 40) (fun k v hI => by
    obtain ⟨i, rfl, hk, h⟩ := hI
    simp only [law11_ImageAll_s0, law11_ImageAll_s0k]
    by_cases hlt : i < w.length
    · rw [lt_dec hlt, inR_nat hlt, Int.toNat_natCast, List.getElem?_eq_getElem hlt]
      simp only [cond_true, some_bind]
      by_cases hy : (w[i].length : Int) > 40
      · rw [decide_eq_true hy]
        exact ⟨_, rfl, .inl rfl⟩
      · rw [decide_eq_false hy, wi64_succ (by omega)]
        refine ⟨_, rfl, k - 1, by omega, i + 1, rfl, by omega, fun y hm => ?_⟩
        rw [List.take_add_one, List.getElem?_eq_getElem hlt] at hm
        rcases List.mem_append.1 hm with hm | hm
        · exact h y hm
        · simp at hm
          subst hm
          omega
    · obtain rfl : i = w.length := by omega
      rw [ge_dec]
      rw [List.take_length] at h
      exact ⟨_, rfl, .inr ⟨rfl, h⟩⟩) w.length (0 : Int) fuel ⟨0, rfl, by omega, fun y hy => by simp at hy⟩ (fuel_gt (by omega))
end Go.Proofs.Ythefogjlenmgfaa.N

set_option linter.unusedVariables false
set_option linter.unusedSimpArgs false
namespace Go.Proofs.Ythefogjlenmgfaa.N
open Go

theorem diff1_iff {a b : List (List UInt8)} {i : Nat} {p : TPut} : diff1 a b i = some p ↔ ∃ y, b[i]? = some y ∧ a[i]? ≠ some y ∧ p = ⟨(i : Int), y⟩ := by
  unfold diff1
  cases h : b[i]? with
  | none => simp
  | some y =>
    simp only
    by_cases he : a[i]? = some y
    · rw [if_pos he]
      simp [he]
    · rw [if_neg he]
      constructor
      · intro h; cases h; exact ⟨y, rfl, he, rfl⟩
      · rintro ⟨y', h1, _, rfl⟩
        cases h1
        rfl
theorem mem_diff {a b : List (List UInt8)} {p : TPut} (h : p ∈ diffP a b) : ∃ (i : Nat) (y : List UInt8), i < b.length ∧ b[i]? = some y ∧ a[i]? ≠ some y ∧ p = ⟨(i : Int), y⟩ := by
  unfold diffP at h
  obtain ⟨i, hi, h2⟩ := List.mem_filterMap.1 h
  obtain ⟨y, h3, h4, h5⟩ := diff1_iff.1 h2
  exact ⟨i, y, List.mem_range.1 hi, h3, h4, h5⟩
theorem diff_mem {a b : List (List UInt8)} {i : Nat} {y : List UInt8} (h : b[i]? = some y) (hn : a[i]? ≠ some y) : (⟨(i : Int), y⟩ : TPut) ∈ diffP a b := by
  unfold diffP
  exact List.mem_filterMap.2 ⟨i, List.mem_range.2 (at_of h), diff1_iff.2 ⟨y, h, hn, rfl⟩⟩
theorem diff_sorted (a b : List (List UInt8)) : (diffP a b).Pairwise (fun x y => x.At < y.At) := by
  unfold diffP
  refine List.Pairwise.filterMap _ ?_ List.pairwise_lt_range
  intro i j hij x hx y hy
  obtain ⟨_, _, _, rfl⟩ := diff1_iff.1 hx
  obtain ⟨_, _, _, rfl⟩ := diff1_iff.1 hy
  show (i : Int) < (j : Int)
  omega
theorem diff_nil {a b : List (List UInt8)} (hl : a.length = b.length) : diffP a b = [] ↔ a = b := by
  constructor
  · intro h
    apply List.ext_getElem? 
    intro i
    cases hb : b[i]? with
    | none => rw [List.getElem?_eq_none_iff] at hb ⊢; omega
    | some y =>
      refine Classical.byContradiction fun hn => ?_
      have := diff_mem hb hn
      rw [h] at this
      cases this
  · intro h; subst h; exact diff_self a

theorem back_loop (l m : List (List UInt8)) (d : List TPut) (hd : d = diffP l m) (hl : l.length = m.length) (hm : m.length ≤ 1000) (o0 o1 : Ttenancymade_Picks) (o2 o3 o4 : TState) : law11_ImageBack_l0 fuel l m d o0 o1 o2 o3 o4 0 l = some (.inr m) := by
  unfold law11_ImageBack_l0
  have hdl : d.length ≤ m.length := by rw [hd]; exact diff_len l m m.length
  have hs : d.Pairwise (fun x y => x.At < y.At) := by rw [hd]; exact diff_sorted l m
  have hsort : ∀ (i j : Nat) (hi : i < d.length) (hj : j < d.length), i < j → d[i].At < d[j].At := fun i j hi hj h => List.pairwise_iff_getElem.1 hs i j hi hj h
  obtain ⟨x, e, hx⟩ := iter_inv (step := law11_ImageBack_s0 l m d o0 o1 o2 o3 o4) (fun k v => ∃ i : Nat, v.1 = (i : Int) ∧ i + k = d.length ∧ v.2.length = m.length ∧ ∀ q : Nat, ((∃ (j : Nat) (p : TPut), j < i ∧ d[j]? = some p ∧ p.At = (q : Int)) → v.2[q]? = m[q]?) ∧ ((∀ (j : Nat) (p : TPut), j < i → d[j]? = some p → p.At ≠ (q : Int)) → v.2[q]? = l[q]?)) (fun r => r = .inr m) (fun k v hI => by
    obtain ⟨v1, y⟩ := v
    obtain ⟨i, h1, hk, hy, hq⟩ := hI
    simp only at h1 hy hq
    subst h1
    simp only [law11_ImageBack_s0, law11_ImageBack_s0k]
    by_cases hlt : i < d.length
    · have hat : d[i]? = some d[i] := List.getElem?_eq_getElem hlt
      have hmem : d[i] ∈ diffP l m := by rw [← hd]; exact List.getElem_mem hlt
      obtain ⟨q, z, hqm, hz, hnz, hp⟩ := mem_diff hmem
      have hqy : q < y.length := by omega
      have hyq : y[q]? = l[q]? := (hq q).2 (fun j p hj hjp => by
        have hjl := at_of hjp
        have := hsort j i hjl hlt hj
        rw [List.getElem?_eq_getElem hjl] at hjp
        cases hjp
        rw [hp] at this
        simp only at this
        omega)
      have hne : y[q] ≠ z := fun h => hnz (by rw [← hyq, List.getElem?_eq_getElem hqy, h])
      have hset : ∃ o, (some (Sum.inl (((i + 1 : Nat) : Int), y.set q z)) : Option ((Int × List (List UInt8)) ⊕ ((List (List UInt8)) ⊕ (List (List UInt8))))) = some o ∧ Sum.elim (fun v' : Int × List (List UInt8) => ∃ k', k' < k ∧ ∃ i : Nat, v'.1 = (i : Int) ∧ i + k' = d.length ∧ v'.2.length = m.length ∧ ∀ q : Nat, ((∃ (j : Nat) (p : TPut), j < i ∧ d[j]? = some p ∧ p.At = (q : Int)) → v'.2[q]? = m[q]?) ∧ ((∀ (j : Nat) (p : TPut), j < i → d[j]? = some p → p.At ≠ (q : Int)) → v'.2[q]? = l[q]?)) (fun r => r = .inr m) o := by
        refine ⟨_, rfl, k - 1, by omega, i + 1, rfl, by omega, by show (y.set q z).length = _; rw [List.length_set]; exact hy, fun q' => ⟨?_, ?_⟩⟩
        · rintro ⟨j, p, hj, hjp, hpq⟩
          show (y.set q z)[q']? = _
          by_cases hqq : q = q'
          · subst hqq
            rw [List.getElem?_set_self hqy, hz]
          · rw [List.getElem?_set_ne hqq]
            refine (hq q').1 ⟨j, p, ?_, hjp, hpq⟩
            by_cases hji : j = i
            · subst hji
              rw [hat] at hjp
              cases hjp
              rw [hp] at hpq
              simp only at hpq
              omega
            · omega
        · intro hno
          show (y.set q z)[q']? = _
          have hqq : q ≠ q' := by
            intro h
            subst h
            exact hno i _ (by omega) hat (by rw [hp])
          rw [List.getElem?_set_ne hqq]
          exact (hq q').2 fun j p hj hjp => hno j p (by omega) hjp
      rw [lt_dec hlt, inR_nat hlt, Int.toNat_natCast, hat]
      simp only [cond_true, some_bind, hp]
      rw [decide_eq_false (show ¬ (q : Int) < 0 by omega), decide_eq_false (show ¬ (q : Int) ≥ (y.length : Int) by omega), inR_nat hqy, Int.toNat_natCast, List.getElem?_eq_getElem hqy, wi64_succ (by omega)]
      simp only [cond_true, cond_false, some_bind]
      rw [beq_ne hne]
      by_cases hi0 : (i : Int) > 0
      · have hi1 : i - 1 < d.length := by omega
        have hso := hsort (i - 1) i hi1 hlt (by omega)
        rw [hp] at hso
        simp only at hso
        rw [decide_eq_true hi0, wi64_of (by omega) (by omega), show (i : Int) - 1 = ((i - 1 : Nat) : Int) by omega, inR_nat hi1, Int.toNat_natCast, List.getElem?_eq_getElem hi1]
        simp only [cond_true, cond_false, some_bind]
        rw [decide_eq_false (show ¬ (q : Int) ≤ d[i - 1].At by omega)]
        exact hset
      · rw [decide_eq_false hi0]
        exact hset
    · obtain rfl : i = d.length := by omega
      rw [ge_dec]
      refine ⟨_, rfl, ?_⟩
      have : y = m := by
        apply List.ext_getElem?
        intro q
        by_cases hin : ∃ (j : Nat) (p : TPut), j < d.length ∧ d[j]? = some p ∧ p.At = (q : Int)
        · exact (hq q).1 hin
        · rw [(hq q).2 fun j p hj hjp hpq => hin ⟨j, p, hj, hjp, hpq⟩]
          cases hmq : m[q]? with
          | none => rw [List.getElem?_eq_none_iff] at hmq ⊢; omega
          | some z =>
            refine Classical.byContradiction fun hn => hin ?_
            have := diff_mem hmq hn
            rw [← hd] at this
            obtain ⟨j, hj⟩ := List.mem_iff_getElem?.1 this
            exact ⟨j, _, at_of hj, hj, rfl⟩
      rw [this]
      rfl) d.length (0, l) fuel ⟨0, rfl, by omega, hl, fun q => ⟨fun ⟨j, p, h, _⟩ => absurd h (Nat.not_lt_zero _), fun _ => rfl⟩⟩ (fuel_gt (by omega))
  rw [e, hx]

theorem back_each (l m : List (List UInt8)) (o0 o1 : Ttenancymade_Picks) (o2 o3 o4 : TState) (y : List (List UInt8)) (hl : l.length ≤ 1000) (h : ∀ x ∈ l, x.length = 32) : law11_ImageBack_l1 fuel l m o0 o1 o2 o3 o4 y 0 = some (.inr ()) := by
  unfold law11_ImageBack_l1
  obtain ⟨x, e, hx⟩ := iter_inv (step := law11_ImageBack_s1 l m o0 o1 o2 o3 o4 y) (fun k v => ∃ i : Nat, v = (i : Int) ∧ i + k = l.length) (fun r => r = .inr ()) (fun k v hI => by
    obtain ⟨i, rfl, hk⟩ := hI
    simp only [law11_ImageBack_s1, law11_ImageBack_s1k]
    by_cases hlt : i < l.length
    · rw [lt_dec hlt, inR_nat hlt, Int.toNat_natCast, List.getElem?_eq_getElem hlt]
      simp only [cond_true, some_bind]
      rw [h _ (List.getElem_mem hlt), wi64_succ (by omega)]
      exact ⟨_, rfl, k - 1, by omega, i + 1, rfl, by omega⟩
    · obtain rfl : i = l.length := by omega
      rw [ge_dec]
      exact ⟨_, rfl, rfl⟩) l.length (0 : Int) fuel ⟨0, rfl, by omega⟩ (fuel_gt (by omega))
  rw [e, hx]

theorem law11_ImageBack_ok (a b : List UInt8) (ha : a.length ≤ 1048576) (hb : b.length ≤ 1048576) : law11_ImageBack fuel a b = some true := by
  unfold law11_ImageBack law11_ImageBack_k
  rw [image_begun, some_bind]
  simp only [Bool.not_true, cond_false]
  by_cases h1 : (a.length : Int) > 60
  · rw [decide_eq_true h1]; rfl
  rw [decide_eq_false h1]
  by_cases h2 : (b.length : Int) > 60
  · rw [decide_eq_true h2]; rfl
  rw [decide_eq_false h2]
  simp only [cond_false]
  obtain ⟨r, e, hg⟩ := State_ok 30 (by omega) (made_Made a) (made_ok a (by omega))
  obtain ⟨r2, e2, hg2⟩ := State_ok 30 (by omega) (made_Made b) (made_ok b (by omega))
  have e' : made_Picks_State fuel 30 (made_Made a) = some r := e
  have e2' : made_Picks_State fuel 30 (made_Made b) = some r2 := e2
  rw [e', some_bind, e2', some_bind, Put_ok _ (good_names hg), some_bind, Put_ok _ (good_names hg2), some_bind, putI_good hg, putI_good hg2]
  have l1 := img_len hg
  have l2 := img_len hg2
  obtain ⟨t, et, ht⟩ := Take_ok (img r.1) (by omega) (by have := flat_le (img r.1) (fun x hx => by rw [img_each hg x hx]; omega); rw [lim_eq]; omega)
  have ht2 : t = (r.1, true) := taken_one ht (.inl ⟨r.1, hg, rfl, rfl⟩)
  subst ht2
  rw [et, some_bind, Diff_ok _ _ (by omega), some_bind]
  simp only [Bool.not_true, cond_false]
  rw [SameState_self _ (by rw [hg.nm]; omega) (by rw [hg.nf]; omega), some_bind]
  simp only [Bool.not_true, cond_false]
  rw [eq_int (show ((img r.1).length : Int) = ((img r2.1).length : Int) by omega)]
  obtain ⟨q, eq, hq⟩ := SameState_ok r.1 r2.1 (by rw [hg.nm]; omega) (by rw [hg.nf]; omega)
  rw [eq]
  simp only [cond_false, some_bind]
  have hdn := diff_nil (show (img r.1).length = (img r2.1).length by omega)
  have hqq : (((diffP (img r.1) (img r2.1)).length : Int) == 0) = q := by
    cases q with
    | true =>
      have hst := hq.1 rfl
      rw [hst, diff_self]
      rfl
    | false =>
      have hne : diffP (img r.1) (img r2.1) ≠ [] := fun h => by
        have := hq.2 (img_inj hg hg2 (hdn.1 h))
        cases this
      have : (diffP (img r.1) (img r2.1)).length ≠ 0 := fun h => hne (List.eq_nil_of_length_eq_zero h)
      simp [this, hne]
  rw [hqq]
  rw [beq_self_eq_true, decide_eq_true (show (img r.1).length ≤ lim by rw [lim_eq]; omega)]
  simp only [Bool.not_true, cond_false, cond_true]
  rw [back_loop _ _ _ rfl (by omega) (by omega), some_bind]
  simp only [alt_inr]
  rw [back_each _ _ _ _ _ _ _ _ (by omega) (img_each hg), some_bind]
  simp only [alt_inr]
  rw [SameTexts_ok _ _ (by omega), beq_self_eq_true]
  rfl
end Go.Proofs.Ythefogjlenmgfaa.N
