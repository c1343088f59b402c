/- Proved: ImageFixed answers true at all arguments of bounded bulk. No condition beyond the statement's. (This text joins: What lasts: which states may be, by the document; the sectors. The sectors: by the document; alike; what is unlike. The plain law of ImageFixed.) -/
import Derived.Test.YthefogjlenmgfaaSeat5
import Derived.KernelRfl
import Derived.Test.YthefogjlenmgfaaSeat1
import Derived.Test.YthefogjlenmgfaaSeat4
set_option linter.unusedVariables false
set_option linter.unusedSimpArgs false
namespace Go.Proofs.Ythefogjlenmgfaa.N
open Go

theorem MayState_ok (s : TState) (hn : ∀ f ∈ s.Files, f.Name.length < 4294967296) : ∃ b, ref7_MayState fuel s = some b ∧ (b = true ↔ Good 1073741824 s) := by
  unfold ref7_MayState ref7_MayState_k
  by_cases h1 : s.Files.length ≠ 6
  · rw [show ((s.Files.length : Int) != 6) = true by simp; omega]
    exact ⟨_, rfl, ⟨fun h => (by cases h), fun h => absurd h.nf h1⟩⟩
  have h1 : s.Files.length = 6 := Decidable.of_not_not h1
  rw [show ((s.Files.length : Int) != 6) = false by simp; omega]
  by_cases h2 : s.Marks.length ≠ 3
  · rw [show ((s.Marks.length : Int) != 3) = true by simp; omega]
    exact ⟨_, rfl, ⟨fun h => (by cases h), fun h => absurd h.nm h2⟩⟩
  have h2 : s.Marks.length = 3 := Decidable.of_not_not h2
  rw [show ((s.Marks.length : Int) != 3) = false by simp; omega]
  cases he : ref7_num s.Epoch with
  | false =>
    refine ⟨_, rfl, ⟨fun h => (by cases h), fun h => ?_⟩⟩
    rw [(num_iff _).2 ⟨h.e0, h.e1⟩] at he
    cases he
  | true =>
    have he' := (num_iff _).1 he
    simp only [cond_false, Bool.not_true]
    unfold ref7_MayState_l0
    obtain ⟨x, e, hx⟩ := iter_inv (step := ref7_MayState_s0 fuel s) (fun k v => ∃ i : Nat, v = (i : Int) ∧ i + k = s.Files.length ∧ ∀ j, j < i → (∀ f, s.Files[j]? = some f → fileOk f) ∧ ahead s.Files j)
      (fun r => Sum.elim (fun _ => ¬ Good 1073741824 s) (fun _ => (∀ f ∈ s.Files, fileOk f) ∧ once s.Files) r) (fun k v hI => by
      obtain ⟨i, rfl, hk, ha⟩ := hI
      simp only [ref7_MayState_s0, ref7_MayState_s0k]
      by_cases hlt : i < s.Files.length
      · have hat : s.Files[i]? = some s.Files[i] := List.getElem?_eq_getElem hlt
        have hmem : s.Files[i] ∈ s.Files := List.getElem_mem hlt
        generalize hf : s.Files[i] = f at hat hmem
        rw [lt_dec hlt, inR_nat hlt, Int.toNat_natCast, hat]
        simp only [cond_true, some_bind]
        have hgo : fileOk f → ahead s.Files i → ∃ o, (some (Sum.inl (wi64 ((i : Int) + 1))) : Option (Int ⊕ (TFile ⊕ Unit))) = some o ∧ Sum.elim (fun v' => ∃ k', k' < k ∧ ∃ i : Nat, v' = (i : Int) ∧ i + k' = s.Files.length ∧ ∀ j, j < i → (∀ f, s.Files[j]? = some f → fileOk f) ∧ ahead s.Files j) (fun r => Sum.elim (fun _ => ¬ Good 1073741824 s) (fun _ => (∀ f ∈ s.Files, fileOk f) ∧ once s.Files) r) o := by
          intro hfo hah
          rw [wi64_succ (by omega)]
          refine ⟨_, rfl, k - 1, by omega, i + 1, rfl, by omega, fun j hj => ?_⟩
          by_cases hji : j = i
          · subst hji
            refine ⟨fun g hg => ?_, hah⟩
            rw [hat] at hg
            cases hg
            exact hfo
          · exact ha j (by omega)
        cases hz : TFile.eqb f (TFile.mk [] 0 []) with
        | true =>
          have hz' := (file_eqb _ _).1 hz
          exact hgo (.inl hz') (fun j g h hj hg hh he => by rw [hat] at hg; cases hg; rw [hz'])
        | false =>
          have hz' : f ≠ noFile := fun h => by rw [h] at hz; exact absurd hz (by decide)
          simp only [cond_false]
          obtain ⟨r, er, hr⟩ := Find_ok s.Files f.Name (by omega) (hn f hmem)
          rw [er, some_bind, ref7_MayName_ok _ (hn f hmem), some_bind]
          have hno : ¬ fileOk f → ¬ Good 1073741824 s := fun h hg => h (hg.fs f hmem)
          cases hm : mayName f.Name with
          | false => exact ⟨_, rfl, hno fun h => by
              rcases h with h | ⟨h, _⟩
              · exact hz' h
              · rw [hm] at h; cases h⟩
          | true =>
            have hne : f.Name ≠ [] := fun h => by have := (mayName_iff hm).1; rw [h] at this; simp at this
            simp only [Bool.not_true, cond_false]
            have hfd : ∃ (a : Nat) (g : TFile), r.1 = (a : Int) + 1 ∧ s.Files[a]? = some g ∧ g.Name = f.Name ∧ a ≤ i ∧ ∀ (j : Nat) g, j < a → s.Files[j]? = some g → g.Name ≠ f.Name := by
              rcases hr with ⟨_, _, a, g, h3, h4, h5, h6⟩ | ⟨_, h3⟩
              · refine ⟨a, g, h3, h4, h5, ?_, h6⟩
                rcases Nat.lt_or_ge i a with h | h
                · exact absurd rfl (h6 i f h hat)
                · exact h
              · exact absurd rfl (h3 hm i f hat)
            obtain ⟨a, g, h3, h4, h5, h6, h7⟩ := hfd
            rw [h3, wi64_succ (show i < 4294967296 by omega)]
            by_cases hai : a = i
            · subst hai
              rw [show (((a : Int) + 1) != ((a + 1 : Nat) : Int)) = false by simp]
              simp only [cond_false]
              by_cases hv : f.Ver < 1
              · rw [decide_eq_true hv]
                exact ⟨_, rfl, hno fun h => by
                  have := (h.some hne).2
                  omega⟩
              · rw [decide_eq_false hv]
                simp only [cond_false]
                cases hv2 : ref7_num f.Ver with
                | false =>
                  exact ⟨_, rfl, hno fun h => by
                    rw [(num_iff _).2 h.ver] at hv2
                    cases hv2⟩
                | true =>
                  have hv2' := (num_iff _).1 hv2
                  simp only [Bool.not_true, cond_false]
                  by_cases hb : (f.Body.length : Int) > 24
                  · rw [decide_eq_true hb]
                    exact ⟨_, rfl, hno fun h => by
                      have := h.body
                      omega⟩
                  · rw [decide_eq_false hb]
                    simp only [cond_false]
                    have := hgo (.inr ⟨hm, by omega, hv2'.2, by omega⟩) (fun j x y hj hx hy he => by rw [hat] at hx; cases hx; exact absurd he (h7 j y hj hy))
                    rw [wi64_succ (show a < 4294967296 by omega)] at this
                    exact this
            · rw [show (((a : Int) + 1) != ((i + 1 : Nat) : Int)) = true by simp; omega]
              refine ⟨_, rfl, fun hg => hne ((once_iff _).1 hg.on i a f g (by omega) hat h4 h5)⟩
      · obtain rfl : i = s.Files.length := by omega
        rw [ge_dec]
        refine ⟨_, rfl, fun f hf => ?_, (once_iff _).2 fun j => ?_⟩
        · obtain ⟨j, hj⟩ := List.mem_iff_getElem?.1 hf
          exact (ha j (at_of hj)).1 f hj
        · by_cases hj : j < s.Files.length
          · exact (ha j hj).2
          · intro a f g _ hf
            exact absurd (at_of hf) hj) s.Files.length (0 : Int) fuel ⟨0, rfl, by omega, fun j h => by omega⟩ (fuel_gt (by omega))
    rw [e, some_bind]
    cases x with
    | inl f => exact ⟨false, rfl, ⟨fun h => (by cases h), fun h => absurd h hx⟩⟩
    | inr f =>
      simp only [alt_inr]
      unfold ref7_MayState_l1
      obtain ⟨y, e2, hy⟩ := iter_inv (step := ref7_MayState_s1 s) (fun k v => ∃ i : Nat, v = (i : Int) ∧ i + k = s.Marks.length ∧ ∀ j, j < i → ∀ f, s.Marks[j]? = some f → markOk 1073741824 f)
        (fun r => Sum.elim (fun _ => ¬ Good 1073741824 s) (fun _ => (∀ f ∈ s.Marks, markOk 1073741824 f)) r) (fun k v hI => by
        obtain ⟨i, rfl, hk, ha⟩ := hI
        simp only [ref7_MayState_s1, ref7_MayState_s1k]
        by_cases hlt : i < s.Marks.length
        · have hat : s.Marks[i]? = some s.Marks[i] := List.getElem?_eq_getElem hlt
          have hmem : s.Marks[i] ∈ s.Marks := List.getElem_mem hlt
          generalize hf : s.Marks[i] = m at hat hmem
          rw [lt_dec hlt, inR_nat hlt, Int.toNat_natCast, hat]
          simp only [cond_true, some_bind]
          have hno : ¬ markOk 1073741824 m → ¬ Good 1073741824 s := fun h hg => h (hg.ms m hmem)
          have n1 := num_iff m.Seq
          have n2 := num_iff m.Ver
          cases ha1 : ref7_num m.Seq with
          | false => exact ⟨_, rfl, hno fun h => by rw [n1.2 ⟨h.1, h.2.1⟩] at ha1; cases ha1⟩
          | true =>
            simp only [Bool.not_true, cond_false]
            by_cases c1 : m.Err < 0
            · rw [decide_eq_true c1]; exact ⟨_, rfl, hno fun h => by have := h.2.2.1; omega⟩
            rw [decide_eq_false c1]
            by_cases c2 : m.Err > 3
            · rw [decide_eq_true c2]; exact ⟨_, rfl, hno fun h => by have := h.2.2.2.1; omega⟩
            rw [decide_eq_false c2]
            by_cases c3 : m.File < 0
            · rw [decide_eq_true c3]; exact ⟨_, rfl, hno fun h => by have := h.2.2.2.2.1; omega⟩
            rw [decide_eq_false c3]
            by_cases c4 : m.File > 6
            · rw [decide_eq_true c4]; exact ⟨_, rfl, hno fun h => by have := h.2.2.2.2.2.1; omega⟩
            rw [decide_eq_false c4]
            simp only [cond_false]
            cases ha2 : ref7_num m.Ver with
            | false => exact ⟨_, rfl, hno fun h => by rw [n2.2 h.2.2.2.2.2.2] at ha2; cases ha2⟩
            | true =>
              simp only [Bool.not_true, cond_false]
              rw [wi64_succ (by omega)]
              refine ⟨_, rfl, k - 1, by omega, i + 1, rfl, by omega, fun j hj f hfj => ?_⟩
              by_cases hji : j = i
              · subst hji
                rw [hat] at hfj
                cases hfj
                exact ⟨(n1.1 ha1).1, (n1.1 ha1).2, by omega, by omega, by omega, by omega, n2.1 ha2⟩
              · exact ha j (by omega) f hfj
        · obtain rfl : i = s.Marks.length := by omega
          rw [ge_dec]
          refine ⟨_, rfl, fun f hf => ?_⟩
          obtain ⟨j, hj⟩ := List.mem_iff_getElem?.1 hf
          exact ha j (at_of hj) f hj) s.Marks.length (0 : Int) fuel ⟨0, rfl, by omega, fun j h => by omega⟩ (fuel_gt (by omega))
      rw [e2, some_bind]
      cases y with
      | inl m => exact ⟨false, rfl, ⟨fun h => (by cases h), fun h => absurd h hy⟩⟩
      | inr m => exact ⟨true, rfl, ⟨fun _ => ⟨h1, h2, he'.1, he'.2, hx.1, hx.2, hy⟩, fun _ => rfl⟩⟩

/-! The bytes -/
def padT (n : Nat) (s : List UInt8) : List UInt8 := txt s ++ List.replicate (n - s.length) 0
def encM (m : TMark) : List UInt8 := be 4 m.Seq ++ (be 1 m.Err ++ (be 1 m.File ++ be 4 m.Ver))
def encF (f : TFile) : List UInt8 := padT 8 f.Name ++ (be 4 f.Ver ++ padT 24 f.Body)
def enc (s : TState) : List UInt8 := be 4 s.Epoch ++ ((s.Marks.map encM).flatten ++ (s.Files.map encF).flatten)
def img (s : TState) : List (List UInt8) := chunkL (enc s ++ List.replicate 26 0)

theorem padT_len {n : Nat} {s : List UInt8} (h : s.length ≤ n) : (padT n s).length = n + 1 := by
  unfold padT
  rw [List.length_append, txt_len, List.length_replicate]; omega
theorem encM_len (m : TMark) : (encM m).length = 10 := by
  unfold encM; simp only [List.length_append, be_len]
theorem encF_len {f : TFile} (h : fileOk f) : (encF f).length = 38 := by
  unfold encF; simp only [List.length_append, be_len, padT_len h.name, padT_len h.body]
theorem flat_len {α : Type} (g : α → List UInt8) (n : Nat) : ∀ l : List α, (∀ x ∈ l, (g x).length = n) → ((l.map g).flatten).length = n * l.length
  | [], _ => rfl
  | x :: r, h => by
    rw [List.map_cons, List.flatten_cons, List.length_append, h x (List.mem_cons_self ..), flat_len g n r (fun y hy => h y (List.mem_cons_of_mem _ hy)), List.length_cons, Nat.mul_add]
    omega
theorem enc_len {B : Int} {s : TState} (h : Good B s) : (enc s).length = 262 := by
  unfold enc
  rw [List.length_append, List.length_append, be_len, flat_len encM 10 _ (fun m _ => encM_len m), flat_len encF 38 _ (fun f hf => encF_len (h.fs f hf)), h.nm, h.nf]

theorem flat_step {α : Type} (g : α → List UInt8) (l : List α) (i : Nat) (h : i < l.length) : ((l.take (i + 1)).map g).flatten = ((l.take i).map g).flatten ++ g l[i] := by
  rw [List.take_add_one, List.getElem?_eq_getElem h]
  simp only [Option.toList, List.map_append, List.map_cons, List.map_nil, List.flatten_append, List.flatten_cons, List.flatten_nil, List.append_nil]

theorem put_mark (b : List UInt8) (m : TMark) (h : b.length ≤ 1000) : (((bits_Put fuel b m.Seq 4)).bind fun r_2 =>
      ((bits_Put fuel r_2 m.Err 1)).bind fun r_3 =>
      ((bits_Put fuel r_3 m.File 1)).bind fun r_4 => bits_Put fuel r_4 m.Ver 4) = some (b ++ encM m) := by
  rw [put4 _ _ (by rw [lim_eq]; omega), some_bind, put1 _ _ (by rw [lim_eq]; simp [be_len]; omega), some_bind, put1 _ _ (by rw [lim_eq]; simp [be_len]; omega), some_bind, put4 _ _ (by rw [lim_eq]; simp [be_len]; omega)]
  unfold encM
  simp only [List.append_assoc]
theorem rput_mark (b : List UInt8) (m : TMark) (h : b.length ≤ 1000) : (((ref1_Put fuel b m.Seq 4)).bind fun r_2 =>
      ((ref1_Put fuel r_2 m.Err 1)).bind fun r_3 =>
      ((ref1_Put fuel r_3 m.File 1)).bind fun r_4 => ref1_Put fuel r_4 m.Ver 4) = some (b ++ encM m) := by
  rw [rput4 _ _ (by rw [lim_eq]; omega), some_bind, rput1 _ _ (by rw [lim_eq]; simp [be_len]; omega), some_bind, rput1 _ _ (by rw [lim_eq]; simp [be_len]; omega), some_bind, rput4 _ _ (by rw [lim_eq]; simp [be_len]; omega)]
  unfold encM
  simp only [List.append_assoc]

theorem natOk_of {n : Nat} (h : n ≤ 1000) : natOk (n : Int) = true := by
  unfold natOk
  simp; omega

theorem padded_ok (b s : List UInt8) (n : Nat) (hb : b.length ≤ 1000) (hn : n ≤ 100) (hs : s.length ≤ n) : image_padded b s ((n : Int) + 1) = some (b ++ padT n s) := by
  unfold image_padded image_padded_k
  rw [bits_Text_ok b s (by omega) (by rw [lim_eq]; omega), some_bind, wi64_of (show -9223372036854775808 ≤ (n : Int) + 1 - 1 by omega) (by omega), show (n : Int) + 1 - 1 - (s.length : Int) = ((n - s.length : Nat) : Int) by omega, wi64_of (by omega) (by omega), natOk_of (by omega), Int.toNat_natCast]
  rw [decide_eq_true (by rw [lim_eq]; simp [txt_len]; omega)]
  simp only [cond_true]
  unfold padT
  rw [List.append_assoc]
theorem pad8 (b s : List UInt8) (hb : b.length ≤ 1000) (hs : s.length ≤ 8) : image_padded b s 9 = some (b ++ padT 8 s) := padded_ok b s 8 hb (by omega) hs
theorem pad24 (b s : List UInt8) (hb : b.length ≤ 1000) (hs : s.length ≤ 24) : image_padded b s 25 = some (b ++ padT 24 s) := padded_ok b s 24 hb (by omega) hs

theorem marks_loop (l : List TMark) (hl : l.length ≤ 10) (s : TState) (b : List UInt8) (hb : b.length ≤ 10) : image_Put_l0 fuel l (l.length : Int) s 0 b = some (b ++ (l.map encM).flatten) := by
  unfold image_Put_l0
  obtain ⟨x, e, hx⟩ := iter_inv (step := image_Put_s0 fuel l (l.length : Int) s) (fun k v => ∃ i : Nat, v.1 = (i : Int) ∧ i + k = l.length ∧ v.2 = b ++ ((l.take i).map encM).flatten)
    (fun r => r = b ++ (l.map encM).flatten) (fun k v hI => by
    obtain ⟨v1, v2⟩ := v
    obtain ⟨i, h1, hk, h2⟩ := hI
    simp only at h1 h2
    subst h1 h2
    simp only [image_Put_s0, image_Put_s0k]
    by_cases hlt : i < l.length
    · rw [lt_dec hlt, inR_nat hlt, Int.toNat_natCast, List.getElem?_eq_getElem hlt]
      simp only [cond_true, some_bind]
      have := put_mark (b ++ ((l.take i).map encM).flatten) l[i] (by rw [List.length_append, flat_len encM 10 _ (fun m _ => encM_len m), List.length_take]; omega)
      have h3 := congrArg (fun o => o.bind fun r => some (Sum.inl (α := Int × List UInt8) (β := List UInt8) (wi64 ((i : Int) + 1), r))) this
      simp only [Option.bind_assoc, some_bind] at h3
      rw [h3, wi64_succ (by omega)]
      refine ⟨_, rfl, k - 1, by omega, i + 1, rfl, by omega, ?_⟩
      rw [flat_step _ _ _ hlt, ← List.append_assoc]
    · obtain rfl : i = l.length := by omega
      rw [ge_dec, List.take_length]
      exact ⟨_, rfl, rfl⟩) l.length (0, b) fuel ⟨0, rfl, by omega, by simp⟩ (fuel_gt (by omega))
  rw [e, hx]

theorem rmarks_loop (s : TState) (hl : s.Marks.length ≤ 10) (b : List UInt8) (hb : b.length ≤ 10) : ref7_PutImage_l0 fuel s 0 b = some (b ++ (s.Marks.map encM).flatten) := by
  unfold ref7_PutImage_l0
  obtain ⟨x, e, hx⟩ := iter_inv (step := ref7_PutImage_s0 fuel s) (fun k v => ∃ i : Nat, v.1 = (i : Int) ∧ i + k = s.Marks.length ∧ v.2 = b ++ ((s.Marks.take i).map encM).flatten)
    (fun r => r = b ++ (s.Marks.map encM).flatten) (fun k v hI => by
    obtain ⟨v1, v2⟩ := v
    obtain ⟨i, h1, hk, h2⟩ := hI
    simp only at h1 h2
    subst h1 h2
    simp only [ref7_PutImage_s0, ref7_PutImage_s0k]
    by_cases hlt : i < s.Marks.length
    · rw [lt_dec hlt, inR_nat hlt, Int.toNat_natCast, List.getElem?_eq_getElem hlt]
      simp only [cond_true, some_bind]
      have := rput_mark (b ++ ((s.Marks.take i).map encM).flatten) s.Marks[i] (by rw [List.length_append, flat_len encM 10 _ (fun m _ => encM_len m), List.length_take]; omega)
      have h3 := congrArg (fun o => o.bind fun r => some (Sum.inl (α := Int × List UInt8) (β := List UInt8) (wi64 ((i : Int) + 1), r))) this
      simp only [Option.bind_assoc, some_bind] at h3
      rw [h3, wi64_succ (by omega)]
      refine ⟨_, rfl, k - 1, by omega, i + 1, rfl, by omega, ?_⟩
      rw [flat_step _ _ _ hlt, ← List.append_assoc]
    · obtain rfl : i = s.Marks.length := by omega
      rw [ge_dec, List.take_length]
      exact ⟨_, rfl, rfl⟩) s.Marks.length (0, b) fuel ⟨0, rfl, by omega, by simp⟩ (fuel_gt (by omega))
  rw [e, hx]

theorem files_loop (l : List TFile) (hl : l.length ≤ 10) (hf : ∀ f ∈ l, fileOk f) (s : TState) (b : List UInt8) (hb : b.length ≤ 100) : image_Put_l1 fuel l (l.length : Int) s 0 b = some (b ++ (l.map encF).flatten) := by
  unfold image_Put_l1
  obtain ⟨x, e, hx⟩ := iter_inv (step := image_Put_s1 fuel l (l.length : Int) s) (fun k v => ∃ i : Nat, v.1 = (i : Int) ∧ i + k = l.length ∧ v.2 = b ++ ((l.take i).map encF).flatten)
    (fun r => r = b ++ (l.map encF).flatten) (fun k v hI => by
    obtain ⟨v1, v2⟩ := v
    obtain ⟨i, h1, hk, h2⟩ := hI
    simp only at h1 h2
    subst h1 h2
    simp only [image_Put_s1, image_Put_s1k]
    by_cases hlt : i < l.length
    · have hfo := hf _ (List.getElem_mem hlt)
      have hbl : (b ++ ((l.take i).map encF).flatten).length ≤ 500 := by
        rw [List.length_append, flat_len encF 38 _ (fun f h => encF_len (hf f (List.mem_of_mem_take h))), List.length_take]; omega
      rw [lt_dec hlt, inR_nat hlt, Int.toNat_natCast, List.getElem?_eq_getElem hlt]
      simp only [cond_true, some_bind]
      rw [pad8 _ _ (by omega) hfo.name, some_bind, put4 _ _ (by rw [lim_eq, List.length_append, padT_len hfo.name]; omega), some_bind, pad24 _ _ (by rw [List.length_append, List.length_append, padT_len hfo.name, be_len]; omega) hfo.body, some_bind, wi64_succ (by omega)]
      refine ⟨_, rfl, k - 1, by omega, i + 1, rfl, by omega, ?_⟩
      rw [flat_step _ _ _ hlt]
      simp only [encF, List.append_assoc]
    · obtain rfl : i = l.length := by omega
      rw [ge_dec, List.take_length]
      exact ⟨_, rfl, rfl⟩) l.length (0, b) fuel ⟨0, rfl, by omega, by simp⟩ (fuel_gt (by omega))
  rw [e, hx]

theorem rfiles_loop (s : TState) (hl : s.Files.length ≤ 10) (hf : ∀ f ∈ s.Files, fileOk f) (b : List UInt8) (hb : b.length ≤ 100) : ref7_PutImage_l1 fuel s 0 b = some (b ++ (s.Files.map encF).flatten) := by
  unfold ref7_PutImage_l1
  obtain ⟨x, e, hx⟩ := iter_inv (step := ref7_PutImage_s1 fuel s) (fun k v => ∃ i : Nat, v.1 = (i : Int) ∧ i + k = s.Files.length ∧ v.2 = b ++ ((s.Files.take i).map encF).flatten)
    (fun r => r = b ++ (s.Files.map encF).flatten) (fun k v hI => by
    obtain ⟨v1, v2⟩ := v
    obtain ⟨i, h1, hk, h2⟩ := hI
    simp only at h1 h2
    subst h1 h2
    simp only [ref7_PutImage_s1, ref7_PutImage_s1k]
    by_cases hlt : i < s.Files.length
    · have hfo := hf _ (List.getElem_mem hlt)
      have hn := hfo.name
      have hbd := hfo.body
      have hbl : (b ++ ((s.Files.take i).map encF).flatten).length ≤ 500 := by
        rw [List.length_append, flat_len encF 38 _ (fun f h => encF_len (hf f (List.mem_of_mem_take h))), List.length_take]; omega
      rw [lt_dec hlt, inR_nat hlt, Int.toNat_natCast, List.getElem?_eq_getElem hlt]
      simp only [cond_true, some_bind]
      rw [ref1_Text_ok _ _ (by omega) (by rw [lim_eq]; omega), some_bind, show (8 : Int) - (s.Files[i].Name.length : Int) = ((8 - s.Files[i].Name.length : Nat) : Int) by omega, wi64_of (by omega) (by omega), natOk_of (by omega), Int.toNat_natCast,
        decide_eq_true (by rw [lim_eq]; simp only [List.length_append, txt_len, List.length_replicate] at hbl ⊢; omega)]
      simp only [cond_true]
      rw [rput4 _ _ (by rw [lim_eq]; simp only [List.length_append, txt_len, List.length_replicate] at hbl ⊢; omega), some_bind, ref1_Text_ok _ _ (by omega) (by rw [lim_eq]; simp only [List.length_append, txt_len, List.length_replicate, be_len] at hbl ⊢; omega), some_bind,
        show (24 : Int) - (s.Files[i].Body.length : Int) = ((24 - s.Files[i].Body.length : Nat) : Int) by omega, wi64_of (by omega) (by omega), natOk_of (by omega), Int.toNat_natCast,
        decide_eq_true (by rw [lim_eq]; simp only [List.length_append, txt_len, List.length_replicate, be_len] at hbl ⊢; omega), wi64_succ (by omega)]
      refine ⟨_, rfl, k - 1, by omega, i + 1, rfl, by omega, ?_⟩
      rw [flat_step _ _ _ hlt]
      simp only [encF, padT, List.append_assoc]
    · obtain rfl : i = s.Files.length := by omega
      rw [ge_dec, List.take_length]
      exact ⟨_, rfl, rfl⟩) s.Files.length (0, b) fuel ⟨0, rfl, by omega, by simp⟩ (fuel_gt (by omega))
  rw [e, hx]

open Classical in
noncomputable def putI (s : TState) : List (List UInt8) := if Good 1073741824 s then img s else []

theorem Put_ok (s : TState) (hn : ∀ f ∈ s.Files, f.Name.length < 4294967296) : image_Put fuel s = some (putI s) := by
  unfold image_Put image_Put_k putI
  obtain ⟨b, e, hb⟩ := May_ok s hn
  rw [e, some_bind]
  cases b with
  | false =>
    rw [if_neg fun h => by have := hb.2 h; cases this]
    rfl
  | true =>
    have hg := hb.1 rfl
    rw [if_pos hg]
    simp only [Bool.not_true, cond_false]
    rw [put4 _ _ (by rw [lim_eq]; simp), some_bind, marks_loop _ (by rw [hg.nm]; omega) _ _ (by simp [be_len]), some_bind, files_loop _ (by rw [hg.nf]; omega) hg.fs _ _ (by simp only [List.length_append, be_len, List.length_nil]; rw [flat_len encM 10 _ (fun m _ => encM_len m), hg.nm]; omega), some_bind]
    have hE : [] ++ be 4 s.Epoch ++ (s.Marks.map encM).flatten ++ (s.Files.map encF).flatten = enc s := by
      unfold enc; simp
    rw [hE, enc_len hg]
    rfl
end Go.Proofs.Ythefogjlenmgfaa.N

set_option linter.unusedVariables false
set_option linter.unusedSimpArgs false
namespace Go.Proofs.Ythefogjlenmgfaa.N
open Go

theorem cut_mid {α : Type} (b : List α) (i k : Nat) : cutL b (i : Int) ((i + k : Nat) : Int) = (b.drop i).take k := by
  unfold cutL
  rw [Int.toNat_natCast, Int.toNat_natCast, List.drop_take]
  congr 1
  omega

theorem PutImage_ok (s : TState) (hn : ∀ f ∈ s.Files, f.Name.length < 4294967296) : ref7_PutImage fuel s = some (putI s) := by
  unfold ref7_PutImage ref7_PutImage_k putI
  obtain ⟨b, e, hb⟩ := MayState_ok s hn
  rw [e, some_bind]
  cases b with
  | false =>
    rw [if_neg fun h => by have := hb.2 h; cases this]
    rfl
  | true =>
    have hg := hb.1 rfl
    rw [if_pos hg]
    simp only [Bool.not_true, cond_false]
    rw [rput4 _ _ (by rw [lim_eq]; simp), some_bind, rmarks_loop _ (by rw [hg.nm]; omega) _ (by simp [be_len]), some_bind, rfiles_loop _ (by rw [hg.nf]; omega) hg.fs _ (by simp only [List.length_append, be_len, List.length_nil]; rw [flat_len encM 10 _ (fun m _ => encM_len m), hg.nm]; omega), some_bind]
    have hE : [] ++ be 4 s.Epoch ++ (s.Marks.map encM).flatten ++ (s.Files.map encF).flatten = enc s := by
      unfold enc; simp
    rw [hE]
    have hl := enc_len hg
    unfold ref7_PutImage_l2
    obtain ⟨x, e2, hx⟩ := iter_inv (step := ref7_PutImage_s2 s) (fun k v => k ≤ 26 ∧ v = enc s ++ List.replicate (26 - k) 0) (fun r => r = enc s ++ List.replicate 26 0) (fun k v hI => by
      obtain ⟨hk, rfl⟩ := hI
      simp only [ref7_PutImage_s2, ref7_PutImage_s2k]
      have hlen : (enc s ++ List.replicate (26 - k) (0 : UInt8)).length = 288 - k := by rw [List.length_append, hl, List.length_replicate]; omega
      rw [hlen]
      have hmod : ((288 - k : Nat) : Int).tmod 32 = ((288 - k) % 32 : Nat) := by
        rw [Int.tmod_eq_emod_of_nonneg (Int.natCast_nonneg _)]; rfl
      rw [hmod]
      by_cases h0 : k = 0
      · subst h0
        exact ⟨_, rfl, rfl⟩
      · rw [show ((((288 - k) % 32 : Nat) : Int) != 0) = true by simp; omega, decide_eq_true (by rw [lim_eq]; omega)]
        refine ⟨_, rfl, k - 1, by omega, by omega, ?_⟩
        rw [List.append_assoc, show (26 - (k - 1)) = (26 - k) + 1 by omega, List.replicate_succ']) 26 (enc s) fuel ⟨by omega, by simp⟩ (fuel_gt (by omega))
    rw [e2, some_bind, hx]
    unfold ref7_PutImage_l3 img
    generalize hB : enc s ++ List.replicate 26 (0 : UInt8) = B
    have hBl : B.length = 288 := by rw [← hB, List.length_append, hl, List.length_replicate]
    obtain ⟨y, e3, hy⟩ := iter_inv (step := ref7_PutImage_s3 s B) (fun k v => ∃ j : Nat, v.1 = ((32 * j : Nat) : Int) ∧ j + k = 9 ∧ v.2 = (List.range j).map (chunkS B)) (fun r => r = chunkL B) (fun k v hI => by
      obtain ⟨v1, v2⟩ := v
      obtain ⟨j, h1, hk, h2⟩ := hI
      simp only at h1 h2
      subst h1 h2
      simp only [ref7_PutImage_s3, ref7_PutImage_s3k]
      rw [hBl]
      by_cases hlt : j < 9
      · rw [decide_eq_true (show ((32 * j : Nat) : Int) < ((288 : Nat) : Int) by omega), wi64_of (by omega) (by omega), show ((32 * j : Nat) : Int) + 32 = ((32 * j + 32 : Nat) : Int) by omega, cutOk_of (by omega) (by omega) (by omega), decide_eq_true (by rw [lim_eq]; simp; omega), cut_mid]
        refine ⟨_, rfl, k - 1, by omega, j + 1, by show ((32 * j + 32 : Nat) : Int) = ((32 * (j + 1) : Nat) : Int); omega, by omega, ?_⟩
        rw [List.range_succ, List.map_append]
        rfl
      · obtain rfl : j = 9 := by omega
        exact ⟨_, rfl, by unfold chunkL; rw [hBl]; rfl⟩) 9 (0, []) fuel ⟨0, rfl, rfl, rfl⟩ (fuel_gt (by omega))
    rw [e3, some_bind, hy]

/-! Alike -/
theorem SameTexts_ok (a b : List (List UInt8)) (ha : a.length ≤ 1000) : ref5_SameTexts fuel a b = some (a == b) := by
  unfold ref5_SameTexts ref5_SameTexts_k
  by_cases hl : a.length = b.length
  · rw [show ((a.length : Int) != (b.length : Int)) = false by simp; omega]
    simp only [cond_false]
    unfold ref5_SameTexts_l0
    obtain ⟨x, e, hx⟩ := iter_inv (step := ref5_SameTexts_s0 a b) (fun k v => ∃ i : Nat, v = (i : Int) ∧ i + k = a.length ∧ a.take i = b.take i) (fun r => Sum.elim (fun _ => a ≠ b) (fun _ => a = b) r) (fun k v hI => by
      obtain ⟨i, rfl, hk, h⟩ := hI
      simp only [ref5_SameTexts_s0, ref5_SameTexts_s0k]
      by_cases hlt : i < a.length
      · have hlt2 : i < b.length := by omega
        rw [lt_dec hlt, inR_nat hlt, inR_nat hlt2, Int.toNat_natCast, List.getElem?_eq_getElem hlt, List.getElem?_eq_getElem hlt2]
        simp only [cond_true, some_bind]
        by_cases he : a[i] = b[i]
        · rw [beq_of he, wi64_succ (by omega)]
          refine ⟨_, rfl, k - 1, by omega, i + 1, rfl, by omega, ?_⟩
          rw [List.take_add_one, List.take_add_one, h, List.getElem?_eq_getElem hlt, List.getElem?_eq_getElem hlt2, he]
        · rw [beq_ne he]
          refine ⟨_, rfl, fun h => he (by subst h; rfl)⟩
      · obtain rfl : i = a.length := by omega
        rw [ge_dec]
        refine ⟨_, rfl, ?_⟩
        rw [List.take_length, hl, List.take_length] at h
        exact h) a.length (0 : Int) fuel ⟨0, rfl, by omega, rfl⟩ (fuel_gt (by omega))
    rw [e, some_bind]
    cases x with
    | inl u => rw [beq_ne (show a ≠ b from hx)]; rfl
    | inr u => rw [beq_of (show a = b from hx)]; rfl
  · rw [show ((a.length : Int) != (b.length : Int)) = true by simp; omega, beq_ne (fun h => hl (by rw [h]))]
    rfl

theorem EqualT_ok (a b : List (List UInt8)) (ha : a.length ≤ 1000) : slices_Equal_string fuel a b = some (a == b) := by
  unfold slices_Equal_string slices_Equal_string_k
  by_cases hl : a.length = b.length
  · rw [show ((a.length : Int) != (b.length : Int)) = false by simp; omega]
    simp only [cond_false]
    unfold slices_Equal_string_l0
    obtain ⟨x, e, hx⟩ := iter_inv (step := slices_Equal_string_s0 a b (a.length : Int)) (fun k v => ∃ i : Nat, v = (i : Int) ∧ i + k = a.length ∧ a.take i = b.take i) (fun r => Sum.elim (fun _ => a ≠ b) (fun _ => a = b) r) (fun k v hI => by
      obtain ⟨i, rfl, hk, h⟩ := hI
      simp only [slices_Equal_string_s0, slices_Equal_string_s0k]
      by_cases hlt : i < a.length
      · have hlt2 : i < b.length := by omega
        rw [lt_dec hlt, inR_nat hlt, inR_nat hlt2, Int.toNat_natCast, List.getElem?_eq_getElem hlt, List.getElem?_eq_getElem hlt2]
        simp only [cond_true, some_bind]
        by_cases he : a[i] = b[i]
        · rw [beq_of he, wi64_succ (by omega)]
          refine ⟨_, rfl, k - 1, by omega, i + 1, rfl, by omega, ?_⟩
          rw [List.take_add_one, List.take_add_one, h, List.getElem?_eq_getElem hlt, List.getElem?_eq_getElem hlt2, he]
        · rw [beq_ne he]
          refine ⟨_, rfl, fun h => he (by subst h; rfl)⟩
      · obtain rfl : i = a.length := by omega
        rw [ge_dec]
        refine ⟨_, rfl, ?_⟩
        rw [List.take_length, hl, List.take_length] at h
        exact h) a.length (0 : Int) fuel ⟨0, rfl, by omega, rfl⟩ (fuel_gt (by omega))
    rw [e, some_bind]
    cases x with
    | inl u => rw [beq_ne (show a ≠ b from hx)]; rfl
    | inr u => rw [beq_of (show a = b from hx)]; rfl
  · rw [show ((a.length : Int) != (b.length : Int)) = true by simp; omega, beq_ne (fun h => hl (by rw [h]))]
    rfl

/-! What is unlike -/
def diff1 (a b : List (List UInt8)) (i : Nat) : Option TPut := match b[i]? with
  | some y => if a[i]? = some y then none else some ⟨(i : Int), y⟩
  | none => none
def diffP (a b : List (List UInt8)) : List TPut := (List.range b.length).filterMap (diff1 a b)

theorem diff_len (a b : List (List UInt8)) (n : Nat) : ((List.range n).filterMap (diff1 a b)).length ≤ n := by
  have := List.length_filterMap_le (diff1 a b) (List.range n)
  rwa [List.length_range] at this
theorem diff_step (a b : List (List UInt8)) (i : Nat) : (List.range (i + 1)).filterMap (diff1 a b) = (List.range i).filterMap (diff1 a b) ++ (diff1 a b i).toList := by
  rw [List.range_succ, List.filterMap_append]
  congr 1

theorem Diff_ok (a b : List (List UInt8)) (hb : b.length ≤ 1000) : image_Diff fuel a b = some (diffP a b) := by
  unfold image_Diff image_Diff_k image_Diff_l0
  obtain ⟨x, e, hx⟩ := iter_inv (step := image_Diff_s0 a b (b.length : Int)) (fun k v => ∃ i : Nat, v.1 = (i : Int) ∧ i + k = b.length ∧ v.2 = (List.range i).filterMap (diff1 a b)) (fun r => r = diffP a b) (fun k v hI => by
    obtain ⟨v1, v2⟩ := v
    obtain ⟨i, h1, hk, h2⟩ := hI
    simp only at h1 h2
    subst h1 h2
    simp only [image_Diff_s0, image_Diff_s0k]
    have hd := diff_len a b i
    by_cases hlt : i < b.length
    · rw [lt_dec hlt, inR_nat hlt, Int.toNat_natCast, List.getElem?_eq_getElem hlt]
      simp only [cond_true, some_bind]
      rw [decide_eq_true (show ((List.range i).filterMap (diff1 a b)).length + 1 ≤ lim by rw [lim_eq]; omega), wi64_succ (by omega)]
      by_cases ha : i < a.length
      · rw [decide_eq_false (show ¬ (i : Int) ≥ (a.length : Int) by omega), inR_nat ha, List.getElem?_eq_getElem ha]
        simp only [cond_true, cond_false, some_bind]
        by_cases he : a[i] = b[i]
        · rw [beq_of he]
          refine ⟨_, rfl, k - 1, by omega, i + 1, rfl, by omega, ?_⟩
          rw [diff_step]
          simp [diff1, List.getElem?_eq_getElem hlt, List.getElem?_eq_getElem ha, he]
        · rw [beq_ne he]
          refine ⟨_, rfl, k - 1, by omega, i + 1, rfl, by omega, ?_⟩
          rw [diff_step]
          simp [diff1, List.getElem?_eq_getElem hlt, List.getElem?_eq_getElem ha, he]
      · rw [decide_eq_true (show (i : Int) ≥ (a.length : Int) by omega)]
        refine ⟨_, rfl, k - 1, by omega, i + 1, rfl, by omega, ?_⟩
        rw [diff_step]
        simp [diff1, List.getElem?_eq_getElem hlt, List.getElem?_eq_none (Nat.le_of_not_lt ha)]
    · obtain rfl : i = b.length := by omega
      rw [ge_dec]
      exact ⟨_, rfl, rfl⟩) b.length (0, []) fuel ⟨0, rfl, by omega, rfl⟩ (fuel_gt (by omega))
  rw [e, some_bind, hx]

theorem rDiff_ok (a b : List (List UInt8)) (hb : b.length ≤ 1000) : ref7_Diff fuel a b = some (diffP a b) := by
  unfold ref7_Diff ref7_Diff_k ref7_Diff_l0
  obtain ⟨x, e, hx⟩ := iter_inv (step := ref7_Diff_s0 a b) (fun k v => ∃ i : Nat, v.1 = (i : Int) ∧ i + k = b.length ∧ v.2 = (List.range i).filterMap (diff1 a b)) (fun r => r = diffP a b) (fun k v hI => by
    obtain ⟨v1, v2⟩ := v
    obtain ⟨i, h1, hk, h2⟩ := hI
    simp only at h1 h2
    subst h1 h2
    simp only [ref7_Diff_s0, ref7_Diff_s0k]
    have hd := diff_len a b i
    by_cases hlt : i < b.length
    · rw [lt_dec hlt, inR_nat hlt, Int.toNat_natCast, List.getElem?_eq_getElem hlt]
      simp only [cond_true, some_bind]
      rw [decide_eq_true (show ((List.range i).filterMap (diff1 a b)).length + 1 ≤ lim by rw [lim_eq]; omega), wi64_succ (by omega)]
      by_cases ha : i < a.length
      · rw [decide_eq_false (show ¬ (i : Int) ≥ (a.length : Int) by omega), inR_nat ha, List.getElem?_eq_getElem ha]
        simp only [cond_true, cond_false, some_bind]
        by_cases he : a[i] = b[i]
        · rw [beq_of he]
          refine ⟨_, rfl, k - 1, by omega, i + 1, rfl, by omega, ?_⟩
          rw [diff_step]
          simp [diff1, List.getElem?_eq_getElem hlt, List.getElem?_eq_getElem ha, he]
        · rw [beq_ne he]
          refine ⟨_, rfl, k - 1, by omega, i + 1, rfl, by omega, ?_⟩
          rw [diff_step]
          simp [diff1, List.getElem?_eq_getElem hlt, List.getElem?_eq_getElem ha, he]
      · rw [decide_eq_true (show (i : Int) ≥ (a.length : Int) by omega)]
        refine ⟨_, rfl, k - 1, by omega, i + 1, rfl, by omega, ?_⟩
        rw [diff_step]
        simp [diff1, List.getElem?_eq_getElem hlt, List.getElem?_eq_none (Nat.le_of_not_lt ha)]
    · obtain rfl : i = b.length := by omega
      rw [ge_dec]
      exact ⟨_, rfl, rfl⟩) b.length (0, []) fuel ⟨0, rfl, by omega, rfl⟩ (fuel_gt (by omega))
  rw [e, some_bind, hx]

theorem diff_self (a : List (List UInt8)) : diffP a a = [] := by
  unfold diffP
  rw [List.filterMap_eq_nil_iff]
  intro i _
  unfold diff1
  cases h : a[i]? with
  | none => rfl
  | some y => simp
end Go.Proofs.Ythefogjlenmgfaa.N

set_option linter.unusedVariables false
set_option maxRecDepth 100000
namespace Go.Proofs.Ythefogjlenmgfaa.N
open Go

theorem image_begun : law11_begun fuel = some true := by rw [fuel_eq]; kernel_rfl

theorem img_len {B : Int} {s : TState} (h : Good B s) : (img s).length = 9 := by
  unfold img chunkL
  rw [List.length_map, List.length_range, List.length_append, enc_len h, List.length_replicate]
theorem img_each {B : Int} {s : TState} (h : Good B s) : ∀ x ∈ img s, x.length = 32 := by
  intro x hx
  unfold img chunkL at hx
  rw [List.length_append, enc_len h, List.length_replicate] at hx
  obtain ⟨k, hk, rfl⟩ := List.mem_map.1 hx
  have := List.mem_range.1 hk
  unfold chunkS
  rw [List.length_take, List.length_drop, List.length_append, enc_len h, List.length_replicate]
  omega
theorem putI_good {s : TState} (h : Good 1073741824 s) : putI s = img s := by unfold putI; rw [if_pos h]
theorem good_names {B : Int} {s : TState} (h : Good B s) : ∀ f ∈ s.Files, f.Name.length < 4294967296 := fun f hf => by have := (h.fs f hf).name; omega

theorem fixed_loop (l : List (List UInt8)) (o : Ttenancymade_Picks) (hl : l.length ≤ 1000) (h : ∀ x ∈ l, x.length = 32) : law11_ImageFixed_l0 fuel l o 0 = some (.inr ()) := by
  unfold law11_ImageFixed_l0
  obtain ⟨x, e, hx⟩ := iter_inv (step := law11_ImageFixed_s0 l o) (fun k v => ∃ i : Nat, v = (i : Int) ∧ i + k = l.length) (fun r => r = .inr ()) (fun k v hI => by
    obtain ⟨i, rfl, hk⟩ := hI
    simp only [law11_ImageFixed_s0, law11_ImageFixed_s0k]
    by_cases hlt : i < l.length
    · rw [lt_dec hlt, inR_nat hlt, Int.toNat_natCast, List.getElem?_eq_getElem hlt]
      simp only [cond_true, some_bind]
      rw [h _ (List.getElem_mem hlt), wi64_succ (by omega)]
      exact ⟨_, rfl, k - 1, by omega, i + 1, rfl, by omega⟩
    · obtain rfl : i = l.length := by omega
      rw [ge_dec]
      exact ⟨_, rfl, rfl⟩) l.length (0 : Int) fuel ⟨0, rfl, by omega⟩ (fuel_gt (by omega))
  rw [e, hx]

theorem law11_ImageFixed_ok (picks : List UInt8) (h : picks.length ≤ 1048576) : law11_ImageFixed fuel picks = some true := by
  unfold law11_ImageFixed law11_ImageFixed_k
  rw [image_begun, some_bind]
  simp only [Bool.not_true, cond_false]
  by_cases hp : (picks.length : Int) > 60
  · rw [decide_eq_true hp]; rfl
  · rw [decide_eq_false hp]
    simp only [cond_false]
    obtain ⟨r, e, hg⟩ := State_ok 30 (by omega) (made_Made picks) (made_ok picks (by omega))
    have e' : made_Picks_State fuel 30 (made_Made picks) = some r := e
    rw [e', some_bind, Put_ok _ (good_names hg), some_bind, putI_good hg, fixed_loop _ _ (by rw [img_len hg]; omega) (img_each hg), some_bind]
    simp only [alt_inr]
    have hnew : image_Put fuel (TState.mk [(TFile.mk [] 0 []), (TFile.mk [] 0 []), (TFile.mk [] 0 []), (TFile.mk [] 0 []), (TFile.mk [] 0 []), (TFile.mk [] 0 [])] [(TMark.mk 0 0 0 0), (TMark.mk 0 0 0 0), (TMark.mk 0 0 0 0)] 0) = some (img newState) := by
      have := Put_ok newState (good_names new_ok)
      rw [putI_good (new_ok.mono (by omega))] at this
      exact this
    rw [hnew, some_bind, Diff_ok _ _ (by rw [img_len new_ok]; omega), some_bind, img_len hg, decide_eq_true (show ((diffP (img r.1) (img newState)).length : Int) ≤ 9 by
      have := diff_len (img r.1) (img newState) (img newState).length
      rw [img_len new_ok] at this
      unfold diffP
      rw [img_len new_ok]
      omega), Diff_ok _ _ (by rw [img_len hg]; omega), diff_self]
    rfl
end Go.Proofs.Ythefogjlenmgfaa.N

set_option linter.unusedVariables false
set_option maxRecDepth 100000
namespace Go.Proofs.Ythefogjlenmgfaa
open Go Go.ChangeShapes Go.WideShapes Go.ChangeAt Go.RowKit
namespace Q6
open Go.Proofs.Ythefogjlenmgfaa.D Go.Proofs.Ythefogjlenmgfaa.I

theorem law (xs : List (DVal E.T)) (h : ArgsOk E 1048576 [(.slice (.int .u8))] xs) : (B6 xs []).get = some (.ret [.val .bool true], []) := by
  match xs, h with
  | [_], .cons _ _ x0 _ h0 .nil => exact (F6 x0).trans ((N.law11_ImageFixed_bind N.fuel _ x0).trans (by rw [N.law11_ImageFixed_ok x0 (h0 12).1]; rfl))

theorem contract (H : Type) (enc : TypeId × Value → H) (W : World) (base : Nat) (args : Array Value) (ds gs : List (DataW H)) (before : List MemPlace)
    (hval : ∀ (j : Nat) t v, Try.f6.params[j]? = some t → args[j]? = some v → Value.okWide Try.prog W .any base t v)
    (hW : DataW.Whole enc Try.prog Try.f6.params.toList Rows.imageFixedSpec.vars false W args.toList ds gs before) (hk : ∀ d ∈ ds, Rows.uptoBulk d ≤ 1048576) :
    Calls Try.prog 6 args W fun e W' => ∃ v, e = .returned v ∧ Rows.imageFixedSpec.post enc Try.prog Try.f6 false true false false W args v W' :=
  law_contract sound tl laid full meas bl (fn := Try.f6) (tb := 4) rfl Try.underlying4 (ps := [(.slice (.int .u8))]) rfl
    (by
      have h : (Try.f6.params.toList.all fun t => Try.prog.readableRec t && decide (t < Try.prog.types.size)) = true := by kernel_rfl
      intro t ht
      have := List.all_eq_true.1 h t ht
      simpa using this) rfl
    (fun ds hd => by
      match ds, hd with
      | [x0], _ => rfl)
    B6_ok law W base args ds gs before hval hW hk

theorem lifted (os : Os) (started : os.Started) (H : Type) (enc : TypeId × Value → H) (F : Stop.Interp) :
    ReturnsInHanded {} Try.checked os 6 .any ((Rows.OpenSpec.upto Rows.imageFixedSpec).pre6 enc Try.prog Try.f6 Rows.imageFixedUptoRow.domain false) (((Rows.OpenSpec.upto Rows.imageFixedSpec).at F).post enc Try.prog Try.f6 false true false false) := by
  refine returnsInHanded_of_cond (C := Try.checked) (s := Rows.OpenSpec.upto Rows.imageFixedSpec) (k := Rows.uptoSmall) rfl own started (by kernel_rfl) Try.func6
    (OpenSpec.witness (enc := enc) (C := Try.checked) (s := Rows.OpenSpec.upto Rows.imageFixedSpec) (k := Rows.uptoSmall) rfl false ⟨#[], #[.slice none 0 0], []⟩ 8 (by kernel_rfl) (by kernel_rfl) (by kernel_rfl)
      (x := ([.nil], [], [])) (by kernel_rfl) rfl (by kernel_rfl)) ?_
  intro W base args ds gs before hval hW _ hk _
  have hgs : gs = [] := by
    obtain ⟨p, q, hA, hV, _⟩ := hW
    cases gs with
    | nil => rfl
    | cons g gs => exact hV.elim
  subst hgs
  exact contract H enc W base args ds [] before hval hW (small hk)

theorem over : Rows.imageFixedUptoRow.holds Try.pinned (Rows.OpenSpec.upto Rows.imageFixedSpec) :=
  OpenClaim.holds_of_cond 6 Try.f6 rfl rfl rfl rfl rfl rfl rfl ⟨rfl, rfl, rfl, rfl, rfl⟩ rfl rfl rfl rfl rfl (by kernel_rfl) Try.func6 (by kernel_rfl)
    (of_decide_eq_true (by kernel_rfl)) (by unfold Func.isWrapper; first | (rw [if_pos (by decide +kernel)]; kernel_rfl) | (rw [if_neg (by decide +kernel)]; exact ⟨rfl, rfl⟩))
    (fun os started H enc _ F => lifted os started H enc F)
end Q6
theorem imageFixed_holds : Rows.ImageFixedUptoSaid := Q6.over
end Go.Proofs.Ythefogjlenmgfaa
