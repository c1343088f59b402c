/- Plain words for this seat (12). Plain words for this seat (13). Plain words for this seat (14). Plain words for this seat (15). Plain words for this seat (16). Plain words for this seat (17). Plain words for this seat (18). Plain words for this seat (19). Plain words for this seat (21). Plain words for this seat (22). -/
import Derived.Test.YtinbnobanikfmaaGreatDoorSeat6
set_option linter.unusedVariables false
set_option linter.unusedSimpArgs false
namespace Go.Proofs.YtinbnobanikfmaaGreatDoor.N
open Go
theorem MayWrite_iff {w : TWrite} : ref7_MayWrite w = true → 0 ≤ w.Off ∧ 1 ≤ w.B.length ∧ w.Off + w.B.length ≤ 24 := by
  unfold ref7_MayWrite ref7_MayWrite_k
  intro h
  by_cases h1 : w.Off ≥ 0 <;> by_cases h2 : w.Off < 24 <;> by_cases h3 : (w.B.length : Int) ≥ 1 <;> simp only [h1, h2, h3, decide_true, decide_false, cond_true, cond_false, id] at h <;> try (exact absurd h (by decide))
  rw [wi64_of (by omega) (by omega)] at h
  have := of_decide_eq_true h
  omega
theorem grow_ok (w : TWrite) (i : Nat) (h : ref7_MayWrite w = true) (hi : i < w.B.length) (b : List UInt8) (hb : b.length ≤ 24) :
    ∃ r, ref7_PutWrite_l0 fuel (i : Int) w b = some r ∧ r.length ≤ 24 ∧ w.Off + i < r.length := by
  obtain ⟨h0, h1, h2⟩ := MayWrite_iff h
  unfold ref7_PutWrite_l0
  exact iter_inv (step := ref7_PutWrite_s0 (i : Int) w) (fun k v => v.length + k = 24) (fun r => r.length ≤ 24 ∧ w.Off + i < r.length) (fun k v hI => by
    simp only [ref7_PutWrite_s0, ref7_PutWrite_s0k]
    rw [wi64_of (by omega) (by omega)]
    by_cases hc : (v.length : Int) ≤ w.Off + i
    · rw [decide_eq_true hc, decide_eq_true (show v.length + 1 ≤ lim by rw [lim_eq]; omega)]
      exact ⟨_, rfl, k - 1, by omega, by simp; omega⟩
    · rw [decide_eq_false hc]
      exact ⟨_, rfl, by omega, by omega⟩) (24 - b.length) b fuel (by omega) (fuel_gt (by omega))
theorem PutWrite_ok (w : TWrite) (b : List UInt8) (hb : b.length ≤ 24) : ∃ r, ref7_PutWrite fuel b w = some r ∧ r.length ≤ 24 := by
  unfold ref7_PutWrite ref7_PutWrite_k
  cases h : ref7_MayWrite w with
  | false => exact ⟨b, rfl, hb⟩
  | true =>
    obtain ⟨h0, h1, h2⟩ := MayWrite_iff h
    simp only [Bool.not_true, cond_false]
    unfold ref7_PutWrite_l1
    obtain ⟨x, e, hx⟩ := iter_inv (step := ref7_PutWrite_s1 fuel w) (fun k v => ∃ i : Nat, v.1 = (i : Int) ∧ i + k = w.B.length ∧ v.2.length ≤ 24) (fun r => r.length ≤ 24) (fun k v hI => by
      obtain ⟨v1, v2⟩ := v
      obtain ⟨i, hi, hk, hl⟩ := hI
      simp only at hi hl
      subst hi
      simp only [ref7_PutWrite_s1, ref7_PutWrite_s1k]
      by_cases hlt : i < w.B.length
      · obtain ⟨r, e, g1, g2⟩ := grow_ok w i h hlt v2 hl
        have hlt2 : (w.Off + (i : Int)).toNat < r.length := by omega
        rw [lt_dec hlt, e, some_bind, inR_nat hlt, Int.toNat_natCast, List.getElem?_eq_getElem hlt, some_bind, wi64_of (show -9223372036854775808 ≤ w.Off + (i : Int) by omega) (by omega), inR_of (by omega) (by omega), List.getElem?_eq_getElem hlt2, some_bind, wi64_succ (by omega)]
        exact ⟨_, rfl, k - 1, by omega, i + 1, rfl, by omega, by rw [List.length_set]; exact g1⟩
      · obtain rfl : i = w.B.length := by omega
        rw [ge_dec]
        exact ⟨_, rfl, hl⟩) w.B.length (0, b) fuel ⟨0, rfl, by omega, hb⟩ (fuel_gt (by omega))
    rw [e, some_bind]
    exact ⟨x, rfl, hx⟩
theorem All_ok (l : List TWrite) (hl : l.length ≤ 1000) (b : List UInt8) (hb : b.length ≤ 24) : ∃ r, ref7_All fuel b l = some r ∧ r.length ≤ 24 := by
  unfold ref7_All ref7_All_k ref7_All_l0
  obtain ⟨x, e, hx⟩ := iter_inv (step := ref7_All_s0 fuel l) (fun k v => ∃ i : Nat, v.2 = (i : Int) ∧ i + k = l.length ∧ v.1.length ≤ 24) (fun r => r.length ≤ 24) (fun k v hI => by
    obtain ⟨v1, v2⟩ := v
    obtain ⟨i, hi, hk, hll⟩ := hI
    simp only at hi hll
    subst hi
    simp only [ref7_All_s0, ref7_All_s0k]
    by_cases hlt : i < l.length
    · obtain ⟨r, e, g1⟩ := PutWrite_ok l[i] v1 hll
      rw [lt_dec hlt, inR_nat hlt, Int.toNat_natCast, List.getElem?_eq_getElem hlt, some_bind, e, some_bind, wi64_succ (by omega)]
      exact ⟨_, rfl, k - 1, by omega, i + 1, rfl, by omega, g1⟩
    · obtain rfl : i = l.length := by omega
      rw [ge_dec]
      exact ⟨_, rfl, hll⟩) l.length (b, 0) fuel ⟨0, rfl, by omega, hb⟩ (fuel_gt (by omega))
  rw [e, some_bind]
  exact ⟨x, rfl, hx⟩
theorem flush_loop (c f : Int) (l : List TWrite) (s : TState) (o : TMark) (m : TMark) (ok : Bool) (o1 : TState) (hl : l.length ≤ 1000) : ∃ r, ref7_Flush_l0 fuel c f l s o m ok 0 o1 = some r := by
  unfold ref7_Flush_l0
  obtain ⟨x, e, hx⟩ := iter_inv (step := ref7_Flush_s0 c f l s o m) (fun k v => ∃ i : Nat, v.2.1 = (i : Int) ∧ i + k = l.length) (fun r => True) (fun k v hI => by
    obtain ⟨v1, v2, v3⟩ := v
    obtain ⟨i, hi, hk⟩ := hI
    simp only at hi
    subst hi
    simp only [ref7_Flush_s0, ref7_Flush_s0k]
    by_cases hlt : i < l.length
    · rw [lt_dec hlt, inR_nat hlt, Int.toNat_natCast, List.getElem?_eq_getElem hlt, some_bind, wi64_succ (by omega)]
      cases v1 with
      | true => exact ⟨_, rfl, k - 1, by omega, i + 1, rfl, by omega⟩
      | false => exact ⟨_, rfl, k - 1, by omega, i + 1, rfl, by omega⟩
    · obtain rfl : i = l.length := by omega
      rw [ge_dec]
      exact ⟨_, rfl, trivial⟩) l.length (ok, 0, o1) fuel ⟨0, rfl, by omega⟩ (fuel_gt (by omega))
  exact ⟨x, e⟩
theorem imin_ver {v : Int} (h : 0 ≤ v) (h2 : v ≤ 1073741824) : 1 ≤ imin (wi64 (v + 1)) 1073741824 ∧ imin (wi64 (v + 1)) 1073741824 ≤ 1073741824 := by
  rw [wi64_of (by omega) (by omega)]
  unfold imin
  split <;> omega
theorem Flush_ok {B : Int} {s : TState} (hs : Good B s) (c : Int) (h1 : 1 ≤ c) (h3 : c ≤ 3) (q : Int) (hq : 0 ≤ q) (hq2 : q ≤ B) (f : Int) (hf1 : 1 ≤ f) (hf2 : f ≤ 7) (l : List TWrite) (hl : l.length ≤ 1000) :
    ∃ t, ref7_Flush fuel s c q f l = some t ∧ Good B t.1 := by
  have hno : ∀ e : Int, 0 ≤ e → e ≤ 3 → ∃ t, ((ref7_marked s c (TMark.mk q e 0 0) 0 (TFile.mk [] 0 [])).bind fun r => some (r, (TMark.mk q e 0 0))) = some t ∧ Good B t.1 := by
    intro e e0 e1
    obtain ⟨t, e, ht⟩ := marked_none hs c h1 h3 ⟨q, e, 0, 0⟩ (mk_mark hq hq2 e0 e1 (by decide) (by decide) (by decide) (by decide)) (TFile.mk [] 0 [])
    rw [e, some_bind]
    exact ⟨_, rfl, ht⟩
  have hyes : ∀ (n : Nat) (x : TFile), f = (n : Int) + 1 → n < 6 → s.Files[n]? = some x → x.Name ≠ [] → ∃ t, (bif (inR (wi64 (f - 1)) s.Files.length) then (((s.Files[(wi64 (f - 1)).toNat]?)).bind fun y_5 =>
          ((ref7_All fuel y_5.Body l)).bind fun r_6 =>
          ((ref7_marked s c (TMark.mk q 0 f (imin (wi64 (y_5.Ver + 1)) 1073741824)) f (TFile.mk y_5.Name (imin (wi64 (y_5.Ver + 1)) 1073741824) r_6))).bind fun r_7 =>
          some (r_7, (TMark.mk q 0 f (imin (wi64 (y_5.Ver + 1)) 1073741824))))
        else none) = some t ∧ Good B t.1 := by
    rintro n x rfl hn hx hxn
    have hlt := at_of hx
    have hfo := hs.fs x (List.mem_of_getElem? hx)
    obtain ⟨r, e, hr⟩ := All_ok l hl x.Body hfo.body
    obtain ⟨v0, v1⟩ := imin_ver hfo.ver.1 hfo.ver.2
    rw [wi64_of (by omega) (by omega), show (n : Int) + 1 - 1 = (n : Int) by omega, inR_nat hlt, Int.toNat_natCast, hx]
    simp only [cond_true, some_bind]
    rw [e, some_bind]
    obtain ⟨t, e, ht⟩ := marked_at hs c h1 h3 ⟨q, 0, (n : Int) + 1, imin (wi64 (x.Ver + 1)) 1073741824⟩ (mk_mark hq hq2 (by decide) (by decide) (by omega) (by omega) (by omega) v1) n hn (TFile.mk x.Name (imin (wi64 (x.Ver + 1)) 1073741824) r) (mk_file (hfo.some hxn).1 v0 v1 hr)
      (.inr fun j g hg he => (hs.on j n g x hg hx (by rw [he]; exact hxn) he))
    rw [e, some_bind]
    exact ⟨_, rfl, ht⟩
  unfold ref7_Flush ref7_Flush_k
  obtain ⟨r, e, hr⟩ := Is_ok hs f hf1 hf2
  rw [e, some_bind]
  cases r with
  | false => exact hno 2 (by decide) (by decide)
  | true =>
    obtain ⟨n, x, hn1, hn, hx, hxn⟩ := hr rfl
    obtain ⟨r1, e1⟩ := flush_loop c f l s (TMark.mk 0 0 0 0) (TMark.mk q 0 0 0) (decide ((l.length : Int) ≤ 5)) (TState.mk [] [] 0) hl
    obtain ⟨r2, e2⟩ := flush_loop c f l s (TMark.mk 0 0 0 0) (TMark.mk q 0 0 0) false (TState.mk [] [] 0) hl
    simp only [Bool.not_true, cond_false, e1, e2, some_bind]
    cases decide ((l.length : Int) ≥ 1) with
    | true =>
      cases r1.1 with
      | false => exact hno 1 (by decide) (by decide)
      | true => exact hyes n x hn1 hn hx hxn
    | false =>
      cases r2.1 with
      | false => exact hno 1 (by decide) (by decide)
      | true => exact hyes n x hn1 hn hx hxn
theorem Boot_ok {B : Int} {s : TState} (hs : Good B s) : Good B (ref7_Boot s) := by
  obtain ⟨v0, v1⟩ := imin_ver hs.e0 hs.e1
  exact ⟨hs.nf, hs.nm, by show 0 ≤ imin (wi64 (s.Epoch + 1)) 1073741824; omega, v1, hs.fs, hs.on, hs.ms⟩
theorem Name_ok (p : Ttenancymade_Picks) (hp : pok p) : ∃ r, made_Picks_Name p = some r ∧ r.1.length ≤ 9 ∧ pok r.2 := by
  obtain ⟨r1, e1, h1, h2, h3⟩ := Num_ok p hp 10 (by omega)
  unfold made_Picks_Name made_Picks_Name_k
  rw [e1, some_bind, inR_of h1 (by omega)]
  have hk : r1.1 = 0 ∨ r1.1 = 1 ∨ r1.1 = 2 ∨ r1.1 = 3 ∨ r1.1 = 4 ∨ r1.1 = 5 ∨ r1.1 = 6 ∨ r1.1 = 7 ∨ r1.1 = 8 ∨ r1.1 = 9 := by omega
  rcases hk with hk | hk | hk | hk | hk | hk | hk | hk | hk | hk <;> rw [hk] <;> exact ⟨_, rfl, by simp, h3⟩
theorem mWrite_ok (p : Ttenancymade_Picks) (hp : pok p) : ∃ r, made_Picks_Write p = some r ∧ pok r.2 := by
  obtain ⟨r1, e1, h1, h2, h3⟩ := Num_ok p hp 10 (by omega)
  obtain ⟨r2, e2, h4, h5, h6⟩ := Num_ok r1.2 h3 6 (by omega)
  unfold made_Picks_Write made_Picks_Write_k
  rw [e1, some_bind, e2, some_bind, inR_of h4 (by omega)]
  have hk : r2.1 = 0 ∨ r2.1 = 1 ∨ r2.1 = 2 ∨ r2.1 = 3 ∨ r2.1 = 4 ∨ r2.1 = 5 := by omega
  rcases hk with hk | hk | hk | hk | hk | hk <;> rw [hk] <;> exact ⟨_, rfl, h6⟩
theorem mWrites_ok (p : Ttenancymade_Picks) (hp : pok p) : ∃ r, made_Picks_Writes fuel 5 p = some r ∧ pok r.1 ∧ r.2.length ≤ 5 := by
  obtain ⟨r1, e1, h1, h2, h3⟩ := Num_ok p hp 6 (by omega)
  unfold made_Picks_Writes made_Picks_Writes_k made_Picks_Writes_l0
  rw [wi64_of (by omega) (by omega), show (5 : Int) + 1 = 6 from rfl, e1, some_bind]
  obtain ⟨x, e, hx⟩ := iter_inv (step := made_Picks_Writes_s0) (fun k v => v.1 = (k : Int) ∧ pok v.2.1 ∧ v.2.2.length + k = r1.1.toNat) (fun r => pok r.1 ∧ r.2.length ≤ 5) (fun k v hI => by
    obtain ⟨v1, v2, v3⟩ := v
    obtain ⟨g1, g2, g3⟩ := hI
    simp only at g1 g2 g3
    subst g1
    simp only [made_Picks_Writes_s0, made_Picks_Writes_s0k]
    by_cases hk : (k : Int) > 0
    · obtain ⟨r, e, h⟩ := mWrite_ok v2 g2
      rw [decide_eq_true hk, e, some_bind, decide_eq_true (show v3.length + 1 ≤ lim by rw [lim_eq]; omega), wi64_of (by omega) (by omega)]
      exact ⟨_, rfl, k - 1, by omega, by show (k : Int) - 1 = ((k - 1 : Nat) : Int); omega, h, by simp; omega⟩
    · rw [decide_eq_false hk]
      exact ⟨_, rfl, g2, by show v3.length ≤ 5; omega⟩) r1.1.toNat (r1.1, r1.2, []) fuel ⟨by show r1.1 = ((r1.1.toNat : Nat) : Int); omega, h3, by simp⟩ (fuel_gt (by omega))
  rw [e, some_bind]
  exact ⟨_, rfl, hx.1, hx.2⟩
theorem imax_seq {x : Int} (h : 0 ≤ x) : 1 ≤ imax x 1 ∧ imax x 1 ≤ x + 1 := by
  unfold imax
  split <;> omega
theorem State_ok (m : Nat) (hm : m ≤ 1000) (p : Ttenancymade_Picks) (hp : pok p) : ∃ r, made_Picks_State fuel (m : Int) p = some r ∧ Good 1073741824 r.1 := by
  unfold made_Picks_State made_Picks_State_k made_Picks_State_l0
  obtain ⟨x, e, hx⟩ := iter_inv (step := made_Picks_State_s0 fuel (m : Int)) (fun k v => ∃ i : Nat, v.1 = (i : Int) ∧ i + k = m ∧ pok v.2.1 ∧ Good (3 * (i : Int) + 1) v.2.2.2) (fun r => Good 1073741824 r.2.2) (fun k v hI => by
    obtain ⟨v1, p, o, s⟩ := v
    obtain ⟨i, hi, hk, hp, hs⟩ := hI
    simp only at hi hp hs
    subst hi
    simp only [made_Picks_State_s0, made_Picks_State_s0k]
    by_cases hlt : i < m
    · rw [lt_dec hlt]
      cases hov : made_Picks_Over p with
      | true => exact ⟨_, rfl, hs.mono (by omega)⟩
      | false =>
        obtain ⟨r1, e1, a1, b1, c1⟩ := Num_ok p hp 3 (by omega)
        obtain ⟨r3, e3, a3, b3, c3⟩ := Num_ok r1.2 c1 3 (by omega)
        obtain ⟨r4, e4, a4, b4, c4⟩ := Num_ok r3.2 c3 6 (by omega)
        have hlt3 : r1.1.toNat < s.Marks.length := by rw [hs.nm]; omega
        have hmk := hs.ms _ (List.getElem_mem hlt3)
        have hs3 := hs.mono (show 3 * (i : Int) + 1 ≤ 3 * ((i + 1 : Nat) : Int) + 1 by omega)
        obtain ⟨q0, q1⟩ := imax_seq (x := s.Marks[r1.1.toNat].Seq + r3.1) (by have := hmk.1; omega)
        have hq := hmk.2.1
        have hq' := hmk.1
        simp only [Bool.not_false, cond_true, e1, some_bind]
        rw [wi64_of (show -9223372036854775808 ≤ 1 + r1.1 by omega) (by omega), show 1 + r1.1 - 1 = r1.1 by omega, wi64_of (show -9223372036854775808 ≤ r1.1 by omega) (by omega), inR_of a1 (by rw [hs.nm]; omega), List.getElem?_eq_getElem hlt3]
        simp only [cond_true, some_bind, e3, e4]
        rw [wi64_of (show -9223372036854775808 ≤ s.Marks[r1.1.toNat].Seq + r3.1 by omega) (by omega)]
        generalize imax (s.Marks[r1.1.toNat].Seq + r3.1) 1 = q at q0 q1 ⊢
        rw [wi64_succ (by omega)]
        have hop : ∃ o2, (((made_Picks_Name r4.2)).bind fun r_5 =>
          ((ref7_Open fuel s (1 + r1.1) q r_5.1)).bind fun r_6 =>
          ((made_Picks_Num 9 r_5.2)).bind fun r_7 =>
          bif (r_7.1 == 0) then some (Sum.inl (((i + 1 : Nat) : Int), r_7.2, (TState.mk [] [] o.Epoch), (ref7_Boot r_6.1)))
          else some (Sum.inl (((i + 1 : Nat) : Int), r_7.2, (TState.mk [] [] o.Epoch), r_6.1))) = some o2 ∧ Sum.elim (fun v' : Int × Ttenancymade_Picks × TState × TState => ∃ k', k' < k ∧ ∃ i : Nat, v'.1 = (i : Int) ∧ i + k' = m ∧ pok v'.2.1 ∧ Good (3 * (i : Int) + 1) v'.2.2.2) (fun r : Ttenancymade_Picks × TState × TState => Good 1073741824 r.2.2) o2 := by
          obtain ⟨r5, e5, a5, c5⟩ := Name_ok r4.2 c4
          obtain ⟨r6, e6, g6⟩ := Open_ok hs3 (1 + r1.1) (by omega) (by omega) q (by omega) (by omega) r5.1 (by omega)
          obtain ⟨r7, e7, a7, b7, c7⟩ := Num_ok r5.2 c5 9 (by omega)
          rw [e5, some_bind, e6, some_bind, e7, some_bind]
          cases (r7.1 == 0) with
          | true => exact ⟨_, rfl, k - 1, by omega, i + 1, rfl, by omega, c7, Boot_ok g6⟩
          | false => exact ⟨_, rfl, k - 1, by omega, i + 1, rfl, by omega, c7, g6⟩
        have hfl : ∃ o2, (((made_Picks_Num 7 r4.2)).bind fun r_14 =>
                ((made_Picks_Writes fuel 5 r_14.2)).bind fun r_15 =>
                ((ref7_Flush fuel s (1 + r1.1) q (wi64 (1 + r_14.1)) r_15.2)).bind fun r_16 =>
                ((made_Picks_Num 9 r_15.1)).bind fun r_17 =>
                bif (r_17.1 == 0) then some (Sum.inl (((i + 1 : Nat) : Int), r_17.2, (TState.mk [] [] o.Epoch), (ref7_Boot r_16.1)))
                else some (Sum.inl (((i + 1 : Nat) : Int), r_17.2, (TState.mk [] [] o.Epoch), r_16.1))) = some o2 ∧ Sum.elim (fun v' : Int × Ttenancymade_Picks × TState × TState => ∃ k', k' < k ∧ ∃ i : Nat, v'.1 = (i : Int) ∧ i + k' = m ∧ pok v'.2.1 ∧ Good (3 * (i : Int) + 1) v'.2.2.2) (fun r : Ttenancymade_Picks × TState × TState => Good 1073741824 r.2.2) o2 := by
          obtain ⟨r5, e5, a5, b5, c5⟩ := Num_ok r4.2 c4 7 (by omega)
          obtain ⟨r8, e8, a8, c8⟩ := mWrites_ok r5.2 c5
          obtain ⟨r6, e6, g6⟩ := Flush_ok hs3 (1 + r1.1) (by omega) (by omega) q (by omega) (by omega) (1 + r5.1) (by omega) (by omega) r8.2 (by omega)
          obtain ⟨r7, e7, a7, b7, c7⟩ := Num_ok r8.1 a8 9 (by omega)
          rw [e5, some_bind, e8, some_bind, wi64_of (show -9223372036854775808 ≤ 1 + r5.1 by omega) (by omega), e6, some_bind, e7, some_bind]
          cases (r7.1 == 0) with
          | true => exact ⟨_, rfl, k - 1, by omega, i + 1, rfl, by omega, c7, Boot_ok g6⟩
          | false => exact ⟨_, rfl, k - 1, by omega, i + 1, rfl, by omega, c7, g6⟩
        have hgo : ∃ o2, (((made_Picks_Num 7 r4.2)).bind fun r_22 =>
                  ((ref7_Gone s (1 + r1.1) q (wi64 (1 + r_22.1)))).bind fun r_23 =>
                  ((made_Picks_Num 9 r_22.2)).bind fun r_24 =>
                  bif (r_24.1 == 0) then some (Sum.inl (((i + 1 : Nat) : Int), r_24.2, (TState.mk [] [] o.Epoch), (ref7_Boot r_23.1)))
                  else some (Sum.inl (((i + 1 : Nat) : Int), r_24.2, (TState.mk [] [] o.Epoch), r_23.1))) = some o2 ∧ Sum.elim (fun v' : Int × Ttenancymade_Picks × TState × TState => ∃ k', k' < k ∧ ∃ i : Nat, v'.1 = (i : Int) ∧ i + k' = m ∧ pok v'.2.1 ∧ Good (3 * (i : Int) + 1) v'.2.2.2) (fun r : Ttenancymade_Picks × TState × TState => Good 1073741824 r.2.2) o2 := by
          obtain ⟨r5, e5, a5, b5, c5⟩ := Num_ok r4.2 c4 7 (by omega)
          obtain ⟨r6, e6, g6⟩ := Gone_ok hs3 (1 + r1.1) (by omega) (by omega) q (by omega) (by omega) (1 + r5.1) (by omega) (by omega)
          obtain ⟨r7, e7, a7, b7, c7⟩ := Num_ok r5.2 c5 9 (by omega)
          rw [e5, some_bind, wi64_of (show -9223372036854775808 ≤ 1 + r5.1 by omega) (by omega), e6, some_bind, e7, some_bind]
          cases (r7.1 == 0) with
          | true => exact ⟨_, rfl, k - 1, by omega, i + 1, rfl, by omega, c7, Boot_ok g6⟩
          | false => exact ⟨_, rfl, k - 1, by omega, i + 1, rfl, by omega, c7, g6⟩
        cases (r4.1 == 0) with
        | true => exact hop
        | false =>
          cases (r4.1 == 1) with
          | true => exact hop
          | false =>
            cases (r4.1 == 2) with
            | true => exact hop
            | false =>
              cases (r4.1 == 3) with
              | true => exact hfl
              | false =>
                cases (r4.1 == 4) with
                | true => exact hfl
                | false => exact hgo
    · obtain rfl : i = m := by omega
      rw [ge_dec]
      exact ⟨_, rfl, hs.mono (by omega)⟩) m (0, p, TState.mk [] [] 0, newState) fuel ⟨0, rfl, by omega, hp, new_ok.mono (by omega)⟩ (fuel_gt (by omega))
  have e' : iter (made_Picks_State_s0 fuel (m : Int)) fuel (0, p, TState.mk [] [] 0, TState.mk [(TFile.mk [] 0 []), (TFile.mk [] 0 []), (TFile.mk [] 0 []), (TFile.mk [] 0 []), (TFile.mk [] 0 []), (TFile.mk [] 0 [])] [(TMark.mk 0 0 0 0), (TMark.mk 0 0 0 0), (TMark.mk 0 0 0 0)] 0) = some x := e
  rw [e', some_bind]
  exact ⟨_, rfl, hx⟩
open Go
theorem number_iff (v : Int) : state_number v = true ↔ 0 ≤ v ∧ v ≤ 1073741824 := by
  unfold state_number state_number_k
  by_cases h1 : v ≥ 0 <;> by_cases h2 : v ≤ 1073741824 <;> simp [h1, h2] <;> omega
theorem file_eqb (x y : TFile) : TFile.eqb x y = true ↔ x = y := by
  obtain ⟨a, b, c⟩ := x
  obtain ⟨d, e, f⟩ := y
  simp [TFile.eqb]
theorem mark_eqb (x y : TMark) : TMark.eqb x y = true ↔ x = y := by
  obtain ⟨a, b, c, d⟩ := x
  obtain ⟨e, f, g, h⟩ := y
  simp [TMark.eqb]
theorem mayFile_ok (f : TFile) (hn : f.Name.length < 4294967296) : ∃ b, state_mayFile fuel f = some b ∧ (b = true ↔ fileOk f) := by
  unfold state_mayFile state_mayFile_k
  by_cases h : f.Name = []
  · rw [beq_of h]
    refine ⟨_, rfl, (file_eqb _ _).trans ⟨fun h => .inl h, fun h2 => h2.none h⟩⟩
  · rw [beq_ne h]
    simp only [cond_false, dir_May_ok _ hn, some_bind]
    have hnf : f ≠ noFile := fun e => h (by rw [e]; rfl)
    cases hm : mayName f.Name with
    | false => exact ⟨_, rfl, ⟨fun h => (by cases h), fun h2 => by rw [(h2.some h).1] at hm; cases hm⟩⟩
    | true =>
      by_cases h1 : f.Ver ≥ 1
      · rw [decide_eq_true h1]
        cases hv : state_number f.Ver with
        | false =>
          refine ⟨_, rfl, ⟨fun h => (by cases h), fun h2 => ?_⟩⟩
          rw [(number_iff _).2 h2.ver] at hv
          cases hv
        | true =>
          have hv' := (number_iff _).1 hv
          refine ⟨_, rfl, ⟨fun h => .inr ⟨hm, h1, hv'.2, by have := of_decide_eq_true h; omega⟩, fun h2 => decide_eq_true (by have := h2.body; omega)⟩⟩
      · rw [decide_eq_false h1]
        exact ⟨_, rfl, ⟨fun h => (by cases h), fun h2 => absurd (h2.some h).2 h1⟩⟩
theorem contF_ok (l : List TFile) (o : TFile) (hl : l.length ≤ 1000) : slices_ContainsFunc_File fuel l o = some (l.any fun g => state_May_c1 g o) := by
  unfold slices_ContainsFunc_File slices_ContainsFunc_File_k slices_IndexFunc_File slices_IndexFunc_File_k slices_IndexFunc_File_l0
  obtain ⟨x, e, hx⟩ := iter_inv (step := slices_IndexFunc_File_s0 l (l.length : Int) o) (fun k v => ∃ i : Nat, v = (i : Int) ∧ i + k = l.length ∧ (l.take i).any (fun g => state_May_c1 g o) = false)
    (fun r => Sum.elim (fun j => 0 ≤ j ∧ l.any (fun g => state_May_c1 g o) = true) (fun _ => l.any (fun g => state_May_c1 g o) = false) r) (fun k v hI => by
    obtain ⟨i, rfl, hk, ha⟩ := hI
    simp only [slices_IndexFunc_File_s0, slices_IndexFunc_File_s0k]
    by_cases hlt : i < l.length
    · rw [lt_dec hlt, inR_nat hlt, Int.toNat_natCast, List.getElem?_eq_getElem hlt]
      simp only [cond_true, some_bind]
      cases hc : state_May_c1 l[i] o with
      | true => exact ⟨_, rfl, Int.natCast_nonneg _, List.any_eq_true.2 ⟨_, List.getElem_mem hlt, hc⟩⟩
      | false =>
        simp only [cond_false]
        rw [wi64_succ (by omega)]
        refine ⟨_, rfl, k - 1, by omega, i + 1, rfl, by omega, ?_⟩
        rw [List.take_add_one, List.any_append, ha, List.getElem?_eq_getElem hlt]
        simp [hc]
    · obtain rfl : i = l.length := by omega
      rw [ge_dec]
      rw [List.take_length] at ha
      exact ⟨_, rfl, ha⟩) l.length (0 : Int) fuel ⟨0, rfl, by omega, rfl⟩ (fuel_gt (by omega))
  rw [e, some_bind]
  cases x with
  | inl j =>
    rw [hx.2]
    show some (decide (j ≥ 0)) = some true
    rw [decide_eq_true hx.1]
  | inr j =>
    have : l.any (fun g => state_May_c1 g o) = false := hx
    rw [this]
    rfl
theorem contM_ok (l : List TMark) (hl : l.length ≤ 1000) : slices_ContainsFunc_Mark fuel l = some (l.any fun g => state_May_c2 g) := by
  unfold slices_ContainsFunc_Mark slices_ContainsFunc_Mark_k slices_IndexFunc_Mark slices_IndexFunc_Mark_k slices_IndexFunc_Mark_l0
  obtain ⟨x, e, hx⟩ := iter_inv (step := slices_IndexFunc_Mark_s0 l (l.length : Int)) (fun k v => ∃ i : Nat, v = (i : Int) ∧ i + k = l.length ∧ (l.take i).any (fun g => state_May_c2 g) = false)
    (fun r => Sum.elim (fun j => 0 ≤ j ∧ l.any (fun g => state_May_c2 g) = true) (fun _ => l.any (fun g => state_May_c2 g) = false) r) (fun k v hI => by
    obtain ⟨i, rfl, hk, ha⟩ := hI
    simp only [slices_IndexFunc_Mark_s0, slices_IndexFunc_Mark_s0k]
    by_cases hlt : i < l.length
    · rw [lt_dec hlt, inR_nat hlt, Int.toNat_natCast, List.getElem?_eq_getElem hlt]
      simp only [cond_true, some_bind]
      cases hc : state_May_c2 l[i] with
      | true => exact ⟨_, rfl, Int.natCast_nonneg _, List.any_eq_true.2 ⟨_, List.getElem_mem hlt, hc⟩⟩
      | false =>
        simp only [cond_false]
        rw [wi64_succ (by omega)]
        refine ⟨_, rfl, k - 1, by omega, i + 1, rfl, by omega, ?_⟩
        rw [List.take_add_one, List.any_append, ha, List.getElem?_eq_getElem hlt]
        simp [hc]
    · obtain rfl : i = l.length := by omega
      rw [ge_dec]
      rw [List.take_length] at ha
      exact ⟨_, rfl, ha⟩) l.length (0 : Int) fuel ⟨0, rfl, by omega, rfl⟩ (fuel_gt (by omega))
  rw [e, some_bind]
  cases x with
  | inl j =>
    rw [hx.2]
    show some (decide (j ≥ 0)) = some true
    rw [decide_eq_true hx.1]
  | inr j =>
    have : l.any (fun g => state_May_c2 g) = false := hx
    rw [this]
    rfl
theorem mayMark_iff (m : TMark) : state_mayMark m = true ↔ markOk 1073741824 m := by
  unfold state_mayMark state_mayMark_k markOk
  have h1 := number_iff m.Seq
  have h2 := number_iff m.Ver
  cases ha : state_number m.Seq <;> cases hb : state_number m.Ver <;> rw [ha] at h1 <;> rw [hb] at h2 <;> by_cases hc : m.File ≥ 0 <;> by_cases hd : m.File ≤ 6 <;> by_cases he : m.Err ≥ 0 <;> by_cases hf : m.Err ≤ 3 <;>
    simp [hc, hd, he, hf] at h1 h2 ⊢ <;> omega
def ahead (l : List TFile) (i : Nat) : Prop := ∀ (j : Nat) f g, j < i → l[i]? = some f → l[j]? = some g → g.Name = f.Name → f.Name = []
theorem once_iff (l : List TFile) : once l ↔ ∀ i, ahead l i := by
  constructor
  · intro h i j f g hj hf hg he
    refine Classical.byContradiction fun hn => ?_
    have := h i j f g hf hg hn he.symm
    omega
  · intro h i j f g hf hg hn he
    rcases Nat.lt_trichotomy i j with hl | hl | hl
    · exact absurd (h j i g f hl hg hf he) (by rw [← he]; exact hn)
    · exact hl
    · exact absurd (h i j f g hl hf hg he.symm) hn
theorem c1_iff (g f : TFile) : state_May_c1 g f = true ↔ f.Name ≠ [] ∧ g.Name = f.Name := by
  unfold state_May_c1 state_May_c1_k
  by_cases h : f.Name = []
  · rw [beq_of h]; simp [h]
  · rw [beq_ne h]; simp [h]
theorem May_ok (s : TState) (hn : ∀ f ∈ s.Files, f.Name.length < 4294967296) : ∃ b, state_May fuel s = some b ∧ (b = true ↔ Good 1073741824 s) := by
  unfold state_May state_May_k
  by_cases h1 : s.Files.length ≠ 6
  · rw [show ((s.Files.length : Int) != 6) = true by simp; omega]
    exact ⟨_, rfl, ⟨fun h => (by cases h), fun h => absurd h.nf h1⟩⟩
  rw [show ((s.Files.length : Int) != 6) = false by simp; omega]
  have h1 : s.Files.length = 6 := Decidable.of_not_not h1
  by_cases h2 : s.Marks.length ≠ 3
  · rw [show ((s.Marks.length : Int) != 3) = true by simp; omega]
    exact ⟨_, rfl, ⟨fun h => (by cases h), fun h => absurd h.nm h2⟩⟩
  rw [show ((s.Marks.length : Int) != 3) = false by simp; omega]
  have h2 : s.Marks.length = 3 := Decidable.of_not_not h2
  cases he : state_number s.Epoch with
  | false =>
    refine ⟨_, rfl, ⟨fun h => (by cases h), fun h => ?_⟩⟩
    rw [(number_iff _).2 ⟨h.e0, h.e1⟩] at he
    cases he
  | true =>
    have he' := (number_iff _).1 he
    simp only [cond_false, Bool.not_true]
    unfold state_May_l0
    obtain ⟨x, e, hx⟩ := iter_inv (step := state_May_s0 fuel s.Files (s.Files.length : Int) s) (fun k v => ∃ i : Nat, v = (i : Int) ∧ i + k = s.Files.length ∧ ∀ j, j < i → (∀ f, s.Files[j]? = some f → fileOk f) ∧ ahead s.Files j)
      (fun r => Sum.elim (fun _ => ¬ Good 1073741824 s) (fun _ => (∀ f ∈ s.Files, fileOk f) ∧ once s.Files) r) (fun k v hI => by
      obtain ⟨i, rfl, hk, ha⟩ := hI
      simp only [state_May_s0, state_May_s0k]
      by_cases hlt : i < s.Files.length
      · rw [lt_dec hlt, inR_nat hlt, Int.toNat_natCast, List.getElem?_eq_getElem hlt]
        simp only [cond_true, some_bind]
        obtain ⟨b, eb, hb⟩ := mayFile_ok s.Files[i] (hn _ (List.getElem_mem hlt))
        rw [eb, some_bind]
        cases b with
        | false => exact ⟨_, rfl, fun hg => by have := hb.2 (hg.fs _ (List.getElem_mem hlt)); cases this⟩
        | true =>
          simp only [Bool.not_true, cond_false]
          rw [cutOk_of (by omega) (by omega) (by omega), cut_front, contF_ok _ _ (by rw [List.length_take]; omega)]
          simp only [cond_true, some_bind]
          cases hc : (s.Files.take i).any (fun g => state_May_c1 g s.Files[i]) with
          | true =>
            refine ⟨_, rfl, fun hg => ?_⟩
            obtain ⟨g, hg1, hg2⟩ := List.any_eq_true.1 hc
            obtain ⟨j, hj1, hj2⟩ := List.mem_iff_getElem?.1 hg1 |>.elim fun j hj => (⟨j, by have := at_of hj; rw [List.length_take] at this; omega, hj⟩ : ∃ j, j < i ∧ (s.Files.take i)[j]? = some g)
            rw [List.getElem?_take_of_lt hj1] at hj2
            obtain ⟨hn1, hn2⟩ := (c1_iff _ _).1 hg2
            exact hn1 ((once_iff _).1 hg.on i j _ g hj1 (List.getElem?_eq_getElem hlt) hj2 hn2)
          | false =>
            simp only [cond_false]
            rw [wi64_succ (by omega)]
            refine ⟨_, rfl, k - 1, by omega, i + 1, rfl, by omega, fun j hj => ?_⟩
            by_cases hji : j = i
            · subst hji
              refine ⟨fun f hf => ?_, fun a f g ha hf hg he => ?_⟩
              · rw [List.getElem?_eq_getElem hlt] at hf
                cases hf
                exact hb.1 rfl
              · rw [List.getElem?_eq_getElem hlt] at hf
                cases hf
                refine Classical.byContradiction fun hne => ?_
                have : (s.Files.take j).any (fun g => state_May_c1 g s.Files[j]) = true := List.any_eq_true.2 ⟨g, List.mem_iff_getElem?.2 ⟨a, by rw [List.getElem?_take_of_lt ha]; exact hg⟩, (c1_iff _ _).2 ⟨hne, he⟩⟩
                rw [hc] at this
                cases this
            · exact ha j (by omega)
      · obtain rfl : i = s.Files.length := by omega
        rw [ge_dec]
        refine ⟨_, rfl, fun f hf => ?_, (once_iff _).2 fun j => ?_⟩
        · obtain ⟨j, hj⟩ := List.mem_iff_getElem?.1 hf
          exact (ha j (at_of hj)).1 f hj
        · by_cases hj : j < s.Files.length
          · exact (ha j hj).2
          · intro a f g _ hf
            exact absurd (at_of hf) hj) s.Files.length (0 : Int) fuel ⟨0, rfl, by omega, fun j h => by omega⟩ (fuel_gt (by omega))
    rw [e, some_bind]
    cases x with
    | inl f => exact ⟨false, rfl, ⟨fun h => (by cases h), fun h => absurd h hx⟩⟩
    | inr f =>
      simp only [alt_inr]
      rw [contM_ok s.Marks (by omega), some_bind]
      refine ⟨_, rfl, ?_⟩
      have hm : (!(s.Marks.any fun g => state_May_c2 g)) = true ↔ ∀ m ∈ s.Marks, markOk 1073741824 m := by
        rw [Bool.not_eq_true', List.any_eq_false]
        refine forall_congr' fun m => forall_congr' fun _ => ?_
        rw [← mayMark_iff]
        unfold state_May_c2 state_May_c2_k
        cases state_mayMark m <;> simp
      rw [hm]
      exact ⟨fun h => ⟨h1, h2, he'.1, he'.2, hx.1, hx.2, h⟩, fun h => h.ms⟩
open Go
def padT (n : Nat) (s : List UInt8) : List UInt8 := txt s ++ List.replicate (n - s.length) 0
def encM (m : TMark) : List UInt8 := be 4 m.Seq ++ (be 1 m.Err ++ (be 1 m.File ++ be 4 m.Ver))
def encF (f : TFile) : List UInt8 := padT 8 f.Name ++ (be 4 f.Ver ++ padT 24 f.Body)
def enc (s : TState) : List UInt8 := be 4 s.Epoch ++ ((s.Marks.map encM).flatten ++ (s.Files.map encF).flatten)
def img (s : TState) : List (List UInt8) := chunkL (enc s ++ List.replicate 26 0)
theorem padT_len {n : Nat} {s : List UInt8} (h : s.length ≤ n) : (padT n s).length = n + 1 := by
  unfold padT
  rw [List.length_append, txt_len, List.length_replicate]; omega
theorem encM_len (m : TMark) : (encM m).length = 10 := by
  unfold encM; simp only [List.length_append, be_len]
theorem encF_len {f : TFile} (h : fileOk f) : (encF f).length = 38 := by
  unfold encF; simp only [List.length_append, be_len, padT_len h.name, padT_len h.body]
theorem flat_len {α : Type} (g : α → List UInt8) (n : Nat) : ∀ l : List α, (∀ x ∈ l, (g x).length = n) → ((l.map g).flatten).length = n * l.length
  | [], _ => rfl
  | x :: r, h => by
    rw [List.map_cons, List.flatten_cons, List.length_append, h x (List.mem_cons_self ..), flat_len g n r (fun y hy => h y (List.mem_cons_of_mem _ hy)), List.length_cons, Nat.mul_add]
    omega
theorem enc_len {B : Int} {s : TState} (h : Good B s) : (enc s).length = 262 := by
  unfold enc
  rw [List.length_append, List.length_append, be_len, flat_len encM 10 _ (fun m _ => encM_len m), flat_len encF 38 _ (fun f hf => encF_len (h.fs f hf)), h.nm, h.nf]
theorem flat_step {α : Type} (g : α → List UInt8) (l : List α) (i : Nat) (h : i < l.length) : ((l.take (i + 1)).map g).flatten = ((l.take i).map g).flatten ++ g l[i] := by
  rw [List.take_add_one, List.getElem?_eq_getElem h]
  simp only [Option.toList, List.map_append, List.map_cons, List.map_nil, List.flatten_append, List.flatten_cons, List.flatten_nil, List.append_nil]
theorem put_mark (b : List UInt8) (m : TMark) (h : b.length ≤ 1000) : (((bits_Put fuel b m.Seq 4)).bind fun r_2 =>
      ((bits_Put fuel r_2 m.Err 1)).bind fun r_3 =>
      ((bits_Put fuel r_3 m.File 1)).bind fun r_4 => bits_Put fuel r_4 m.Ver 4) = some (b ++ encM m) := by
  rw [put4 _ _ (by rw [lim_eq]; omega), some_bind, put1 _ _ (by rw [lim_eq]; simp [be_len]; omega), some_bind, put1 _ _ (by rw [lim_eq]; simp [be_len]; omega), some_bind, put4 _ _ (by rw [lim_eq]; simp [be_len]; omega)]
  unfold encM
  simp only [List.append_assoc]
theorem natOk_of {n : Nat} (h : n ≤ 1000) : natOk (n : Int) = true := by
  unfold natOk
  simp; omega
theorem padded_ok (b s : List UInt8) (n : Nat) (hb : b.length ≤ 1000) (hn : n ≤ 100) (hs : s.length ≤ n) : image_padded b s ((n : Int) + 1) = some (b ++ padT n s) := by
  unfold image_padded image_padded_k
  rw [bits_Text_ok b s (by omega) (by rw [lim_eq]; omega), some_bind, wi64_of (show -9223372036854775808 ≤ (n : Int) + 1 - 1 by omega) (by omega), show (n : Int) + 1 - 1 - (s.length : Int) = ((n - s.length : Nat) : Int) by omega, wi64_of (by omega) (by omega), natOk_of (by omega), Int.toNat_natCast]
  rw [decide_eq_true (by rw [lim_eq]; simp [txt_len]; omega)]
  simp only [cond_true]
  unfold padT
  rw [List.append_assoc]
theorem pad8 (b s : List UInt8) (hb : b.length ≤ 1000) (hs : s.length ≤ 8) : image_padded b s 9 = some (b ++ padT 8 s) := padded_ok b s 8 hb (by omega) hs
theorem pad24 (b s : List UInt8) (hb : b.length ≤ 1000) (hs : s.length ≤ 24) : image_padded b s 25 = some (b ++ padT 24 s) := padded_ok b s 24 hb (by omega) hs
theorem marks_loop (l : List TMark) (hl : l.length ≤ 10) (s : TState) (b : List UInt8) (hb : b.length ≤ 10) : image_Put_l0 fuel l (l.length : Int) s 0 b = some (b ++ (l.map encM).flatten) := by
  unfold image_Put_l0
  obtain ⟨x, e, hx⟩ := iter_inv (step := image_Put_s0 fuel l (l.length : Int) s) (fun k v => ∃ i : Nat, v.1 = (i : Int) ∧ i + k = l.length ∧ v.2 = b ++ ((l.take i).map encM).flatten)
    (fun r => r = b ++ (l.map encM).flatten) (fun k v hI => by
    obtain ⟨v1, v2⟩ := v
    obtain ⟨i, h1, hk, h2⟩ := hI
    simp only at h1 h2
    subst h1 h2
    simp only [image_Put_s0, image_Put_s0k]
    by_cases hlt : i < l.length
    · rw [lt_dec hlt, inR_nat hlt, Int.toNat_natCast, List.getElem?_eq_getElem hlt]
      simp only [cond_true, some_bind]
      have := put_mark (b ++ ((l.take i).map encM).flatten) l[i] (by rw [List.length_append, flat_len encM 10 _ (fun m _ => encM_len m), List.length_take]; omega)
      have h3 := congrArg (fun o => o.bind fun r => some (Sum.inl (α := Int × List UInt8) (β := List UInt8) (wi64 ((i : Int) + 1), r))) this
      simp only [Option.bind_assoc, some_bind] at h3
      rw [h3, wi64_succ (by omega)]
      refine ⟨_, rfl, k - 1, by omega, i + 1, rfl, by omega, ?_⟩
      rw [flat_step _ _ _ hlt, ← List.append_assoc]
    · obtain rfl : i = l.length := by omega
      rw [ge_dec, List.take_length]
      exact ⟨_, rfl, rfl⟩) l.length (0, b) fuel ⟨0, rfl, by omega, by simp⟩ (fuel_gt (by omega))
  rw [e, hx]
theorem files_loop (l : List TFile) (hl : l.length ≤ 10) (hf : ∀ f ∈ l, fileOk f) (s : TState) (b : List UInt8) (hb : b.length ≤ 100) : image_Put_l1 fuel l (l.length : Int) s 0 b = some (b ++ (l.map encF).flatten) := by
  unfold image_Put_l1
  obtain ⟨x, e, hx⟩ := iter_inv (step := image_Put_s1 fuel l (l.length : Int) s) (fun k v => ∃ i : Nat, v.1 = (i : Int) ∧ i + k = l.length ∧ v.2 = b ++ ((l.take i).map encF).flatten)
    (fun r => r = b ++ (l.map encF).flatten) (fun k v hI => by
    obtain ⟨v1, v2⟩ := v
    obtain ⟨i, h1, hk, h2⟩ := hI
    simp only at h1 h2
    subst h1 h2
    simp only [image_Put_s1, image_Put_s1k]
    by_cases hlt : i < l.length
    · have hfo := hf _ (List.getElem_mem hlt)
      have hbl : (b ++ ((l.take i).map encF).flatten).length ≤ 500 := by
        rw [List.length_append, flat_len encF 38 _ (fun f h => encF_len (hf f (List.mem_of_mem_take h))), List.length_take]; omega
      rw [lt_dec hlt, inR_nat hlt, Int.toNat_natCast, List.getElem?_eq_getElem hlt]
      simp only [cond_true, some_bind]
      rw [pad8 _ _ (by omega) hfo.name, some_bind, put4 _ _ (by rw [lim_eq, List.length_append, padT_len hfo.name]; omega), some_bind, pad24 _ _ (by rw [List.length_append, List.length_append, padT_len hfo.name, be_len]; omega) hfo.body, some_bind, wi64_succ (by omega)]
      refine ⟨_, rfl, k - 1, by omega, i + 1, rfl, by omega, ?_⟩
      rw [flat_step _ _ _ hlt]
      simp only [encF, List.append_assoc]
    · obtain rfl : i = l.length := by omega
      rw [ge_dec, List.take_length]
      exact ⟨_, rfl, rfl⟩) l.length (0, b) fuel ⟨0, rfl, by omega, by simp⟩ (fuel_gt (by omega))
  rw [e, hx]
open Classical in
noncomputable def putI (s : TState) : List (List UInt8) := if Good 1073741824 s then img s else []
theorem Put_ok (s : TState) (hn : ∀ f ∈ s.Files, f.Name.length < 4294967296) : image_Put fuel s = some (putI s) := by
  unfold image_Put image_Put_k putI
  obtain ⟨b, e, hb⟩ := May_ok s hn
  rw [e, some_bind]
  cases b with
  | false =>
    rw [if_neg fun h => by have := hb.2 h; cases this]
    rfl
  | true =>
    have hg := hb.1 rfl
    rw [if_pos hg]
    simp only [Bool.not_true, cond_false]
    rw [put4 _ _ (by rw [lim_eq]; simp), some_bind, marks_loop _ (by rw [hg.nm]; omega) _ _ (by simp [be_len]), some_bind, files_loop _ (by rw [hg.nf]; omega) hg.fs _ _ (by simp only [List.length_append, be_len, List.length_nil]; rw [flat_len encM 10 _ (fun m _ => encM_len m), hg.nm]; omega), some_bind]
    have hE : [] ++ be 4 s.Epoch ++ (s.Marks.map encM).flatten ++ (s.Files.map encF).flatten = enc s := by
      unfold enc; simp
    rw [hE, enc_len hg]
    rfl
open Go
theorem EqualT_ok (a b : List (List UInt8)) (ha : a.length ≤ 1000) : slices_Equal_string fuel a b = some (a == b) := by
  unfold slices_Equal_string slices_Equal_string_k
  by_cases hl : a.length = b.length
  · rw [show ((a.length : Int) != (b.length : Int)) = false by simp; omega]
    simp only [cond_false]
    unfold slices_Equal_string_l0
    obtain ⟨x, e, hx⟩ := iter_inv (step := slices_Equal_string_s0 a b (a.length : Int)) (fun k v => ∃ i : Nat, v = (i : Int) ∧ i + k = a.length ∧ a.take i = b.take i) (fun r => Sum.elim (fun _ => a ≠ b) (fun _ => a = b) r) (fun k v hI => by
      obtain ⟨i, rfl, hk, h⟩ := hI
      simp only [slices_Equal_string_s0, slices_Equal_string_s0k]
      by_cases hlt : i < a.length
      · have hlt2 : i < b.length := by omega
        rw [lt_dec hlt, inR_nat hlt, inR_nat hlt2, Int.toNat_natCast, List.getElem?_eq_getElem hlt, List.getElem?_eq_getElem hlt2]
        simp only [cond_true, some_bind]
        by_cases he : a[i] = b[i]
        · rw [beq_of he, wi64_succ (by omega)]
          refine ⟨_, rfl, k - 1, by omega, i + 1, rfl, by omega, ?_⟩
          rw [List.take_add_one, List.take_add_one, h, List.getElem?_eq_getElem hlt, List.getElem?_eq_getElem hlt2, he]
        · rw [beq_ne he]
          refine ⟨_, rfl, fun h => he (by subst h; rfl)⟩
      · obtain rfl : i = a.length := by omega
        rw [ge_dec]
        refine ⟨_, rfl, ?_⟩
        rw [List.take_length, hl, List.take_length] at h
        exact h) a.length (0 : Int) fuel ⟨0, rfl, by omega, rfl⟩ (fuel_gt (by omega))
    rw [e, some_bind]
    cases x with
    | inl u => rw [beq_ne (show a ≠ b from hx)]; rfl
    | inr u => rw [beq_of (show a = b from hx)]; rfl
  · rw [show ((a.length : Int) != (b.length : Int)) = true by simp; omega, beq_ne (fun h => hl (by rw [h]))]
    rfl
def diff1 (a b : List (List UInt8)) (i : Nat) : Option TPut := match b[i]? with
  | some y => if a[i]? = some y then none else some ⟨(i : Int), y⟩
  | none => none
def diffP (a b : List (List UInt8)) : List TPut := (List.range b.length).filterMap (diff1 a b)
theorem diff_len (a b : List (List UInt8)) (n : Nat) : ((List.range n).filterMap (diff1 a b)).length ≤ n := by
  have := List.length_filterMap_le (diff1 a b) (List.range n)
  rwa [List.length_range] at this
theorem diff_step (a b : List (List UInt8)) (i : Nat) : (List.range (i + 1)).filterMap (diff1 a b) = (List.range i).filterMap (diff1 a b) ++ (diff1 a b i).toList := by
  rw [List.range_succ, List.filterMap_append]
  congr 1
theorem Diff_ok (a b : List (List UInt8)) (hb : b.length ≤ 1000) : image_Diff fuel a b = some (diffP a b) := by
  unfold image_Diff image_Diff_k image_Diff_l0
  obtain ⟨x, e, hx⟩ := iter_inv (step := image_Diff_s0 a b (b.length : Int)) (fun k v => ∃ i : Nat, v.1 = (i : Int) ∧ i + k = b.length ∧ v.2 = (List.range i).filterMap (diff1 a b)) (fun r => r = diffP a b) (fun k v hI => by
    obtain ⟨v1, v2⟩ := v
    obtain ⟨i, h1, hk, h2⟩ := hI
    simp only at h1 h2
    subst h1 h2
    simp only [image_Diff_s0, image_Diff_s0k]
    have hd := diff_len a b i
    by_cases hlt : i < b.length
    · rw [lt_dec hlt, inR_nat hlt, Int.toNat_natCast, List.getElem?_eq_getElem hlt]
      simp only [cond_true, some_bind]
      rw [decide_eq_true (show ((List.range i).filterMap (diff1 a b)).length + 1 ≤ lim by rw [lim_eq]; omega), wi64_succ (by omega)]
      by_cases ha : i < a.length
      · rw [decide_eq_false (show ¬ (i : Int) ≥ (a.length : Int) by omega), inR_nat ha, List.getElem?_eq_getElem ha]
        simp only [cond_true, cond_false, some_bind]
        by_cases he : a[i] = b[i]
        · rw [beq_of he]
          refine ⟨_, rfl, k - 1, by omega, i + 1, rfl, by omega, ?_⟩
          rw [diff_step]
          simp [diff1, List.getElem?_eq_getElem hlt, List.getElem?_eq_getElem ha, he]
        · rw [beq_ne he]
          refine ⟨_, rfl, k - 1, by omega, i + 1, rfl, by omega, ?_⟩
          rw [diff_step]
          simp [diff1, List.getElem?_eq_getElem hlt, List.getElem?_eq_getElem ha, he]
      · rw [decide_eq_true (show (i : Int) ≥ (a.length : Int) by omega)]
        refine ⟨_, rfl, k - 1, by omega, i + 1, rfl, by omega, ?_⟩
        rw [diff_step]
        simp [diff1, List.getElem?_eq_getElem hlt, List.getElem?_eq_none (Nat.le_of_not_lt ha)]
    · obtain rfl : i = b.length := by omega
      rw [ge_dec]
      exact ⟨_, rfl, rfl⟩) b.length (0, []) fuel ⟨0, rfl, by omega, rfl⟩ (fuel_gt (by omega))
  rw [e, some_bind, hx]
theorem diff_self (a : List (List UInt8)) : diffP a a = [] := by
  unfold diffP
  rw [List.filterMap_eq_nil_iff]
  intro i _
  unfold diff1
  cases h : a[i]? with
  | none => rfl
  | some y => simp
theorem img_len {B : Int} {s : TState} (h : Good B s) : (img s).length = 9 := by
  unfold img chunkL
  rw [List.length_map, List.length_range, List.length_append, enc_len h, List.length_replicate]
theorem img_each {B : Int} {s : TState} (h : Good B s) : ∀ x ∈ img s, x.length = 32 := by
  intro x hx
  unfold img chunkL at hx
  rw [List.length_append, enc_len h, List.length_replicate] at hx
  obtain ⟨k, hk, rfl⟩ := List.mem_map.1 hx
  have := List.mem_range.1 hk
  unfold chunkS
  rw [List.length_take, List.length_drop, List.length_append, enc_len h, List.length_replicate]
  omega
theorem putI_good {s : TState} (h : Good 1073741824 s) : putI s = img s := by unfold putI; rw [if_pos h]
theorem good_names {B : Int} {s : TState} (h : Good B s) : ∀ f ∈ s.Files, f.Name.length < 4294967296 := fun f hf => by have := (h.fs f hf).name; omega
open Go
def pMark (b : List UInt8) : Option (TMark × List UInt8) := (num 4 b).bind fun p => (num 1 p.2).bind fun q => (num 1 q.2).bind fun r => (num 4 r.2).bind fun u => some (⟨p.1, q.1, r.1, u.1⟩, u.2)
def textN (n : Nat) (b : List UInt8) : Option (List UInt8 × List UInt8) := (text b).bind fun p => if p.1.length + 1 ≤ n ∧ n ≤ b.length then some (p.1, b.drop n) else none
def pFile (b : List UInt8) : Option (TFile × List UInt8) := (textN 9 b).bind fun p => (num 4 p.2).bind fun q => (textN 25 q.2).bind fun r => some (⟨p.1, q.1, r.1⟩, r.2)
def pList {A : Type} (p : List UInt8 → Option (A × List UInt8)) : Nat → List UInt8 → List A → Option (List A × List UInt8)
  | 0, b, l => some (l, b)
  | n + 1, b, l => (p b).bind fun x => pList p n x.2 (l ++ [x.1])
def pState (b : List UInt8) : Option TState := (num 4 b).bind fun e => (pList pMark 3 e.2 []).bind fun m => (pList pFile 6 m.2 []).bind fun f => some ⟨f.1, m.1, e.1⟩
theorem inum_ok (b : List UInt8) (k : Nat) (h1 : 1 ≤ k) (h7 : k ≤ 7) : image_reader_num_2 fuel (k : Int) ⟨b⟩ = some (match num k b with | some (v, r) => .inl (v, ⟨r⟩) | none => .inr ()) := by
  unfold image_reader_num_2 image_reader_num_2_k
  rw [bits_Take_ok b k h1 h7]
  unfold num
  by_cases h : b.length < k
  · rw [if_pos h]; rfl
  · rw [if_neg h]
    simp only [some_bind, Bool.not_true, cond_false]
    rw [cutOk_of (by omega) (by omega) (by omega), cut_back]
    rfl
theorem inum0_ok (b : List UInt8) : image_reader_num fuel 4 ⟨b⟩ = some (match num 4 b with | some (v, r) => .inl (v, ⟨r⟩, b) | none => .inr ()) := by
  unfold image_reader_num image_reader_num_k
  have := bits_Take_ok b 4 (by omega) (by omega)
  rw [show ((4 : Nat) : Int) = 4 from rfl] at this
  rw [this]
  unfold num
  by_cases h : b.length < 4
  · rw [if_pos h]; rfl
  · rw [if_neg h]
    simp only [some_bind, Bool.not_true, cond_false]
    have hc := cut_back b 4
    rw [show ((4 : Nat) : Int) = 4 from rfl] at hc
    rw [cutOk_of (by omega) (by omega) (by omega), hc]
    rfl
theorem in1 (b : List UInt8) : image_reader_num_2 fuel 1 ⟨b⟩ = some (match num 1 b with | some (v, r) => .inl (v, ⟨r⟩) | none => .inr ()) := inum_ok b 1 (by omega) (by omega)
theorem in4 (b : List UInt8) : image_reader_num_2 fuel 4 ⟨b⟩ = some (match num 4 b with | some (v, r) => .inl (v, ⟨r⟩) | none => .inr ()) := inum_ok b 4 (by omega) (by omega)
theorem itext_ok (b : List UInt8) (n : Nat) (hn : n ≤ 100) (hb : b.length ≤ lim) : image_reader_text (n : Int) ⟨b⟩ = some (match textN n b with | some (s, r) => .inl (s, ⟨r⟩) | none => .inr ()) := by
  unfold image_reader_text image_reader_text_k textN
  rw [take_text_ok b hb]
  cases h : text b with
  | none => rfl
  | some p =>
    obtain ⟨s, r⟩ := p
    simp only [some_bind, Bool.not_true, cond_false]
    by_cases h1 : s.length + 1 ≤ n
    · rw [decide_eq_false (show ¬ (s.length : Int) + 1 > (n : Int) by omega)]
      by_cases h2 : n ≤ b.length
      · rw [decide_eq_false (show ¬ (b.length : Int) < (n : Int) by omega), if_pos ⟨h1, h2⟩, cutOk_of (by omega) (by omega) (by omega), cut_back]
        rfl
      · rw [decide_eq_true (show (b.length : Int) < (n : Int) by omega), if_neg (fun h => h2 h.2)]
        rfl
    · rw [decide_eq_true (show (s.length : Int) + 1 > (n : Int) by omega), if_neg (fun h => h1 h.1)]
      rfl
theorem it9 (b : List UInt8) (hb : b.length ≤ lim) : image_reader_text 9 ⟨b⟩ = some (match textN 9 b with | some (s, r) => .inl (s, ⟨r⟩) | none => .inr ()) := itext_ok b 9 (by omega) hb
theorem it25 (b : List UInt8) (hb : b.length ≤ lim) : image_reader_text 25 ⟨b⟩ = some (match textN 25 b with | some (s, r) => .inl (s, ⟨r⟩) | none => .inr ()) := itext_ok b 25 (by omega) hb
theorem textN_parts {n : Nat} {b s r : List UInt8} (h : textN n b = some (s, r)) : s.length + 1 ≤ n ∧ r.length + n = b.length := by
  unfold textN at h
  cases ht : text b with
  | none => rw [ht] at h; cases h
  | some p =>
    rw [ht, some_bind] at h
    split at h
    · rename_i hc
      cases h
      exact ⟨hc.1, by rw [List.length_drop]; omega⟩
    · cases h
theorem rmarks (r1 : List UInt8) (e : Int) : ∀ (m i : Nat) (b : List UInt8) (l : List TMark) (n : Nat), i + m = 3 → m < n → l.length + m ≤ 100 → ∃ x, iter (image_reader_read_s0 fuel r1) n ((i : Int), ⟨b⟩, ⟨[], l, e⟩) = some x ∧
    (match pList pMark m b l with | some (l', b') => x = .inr (⟨b'⟩, ⟨[], l', e⟩) | none => ∃ y, x = .inl y)
  | _, _, _, _, 0, _, h, _ => absurd h (Nat.not_lt_zero _)
  | 0, i, b, l, n + 1, hi, _, _ => by
    obtain rfl : i = 3 := by omega
    rw [iter_succ]
    exact ⟨_, rfl, rfl⟩
  | m + 1, i, b, l, n + 1, hi, hn, hl => by
    rw [iter_succ]
    simp only [image_reader_read_s0, image_reader_read_s0k]
    rw [decide_eq_true (show (i : Int) < 3 by omega), in4]
    simp only [cond_true, some_bind, pList, pMark]
    cases h1 : num 4 b with
    | none => exact ⟨_, rfl, _, rfl⟩
    | some p =>
      obtain ⟨v1, b1⟩ := p
      simp only [alt_inl, some_bind]
      rw [in1, some_bind]
      cases h2 : num 1 b1 with
      | none => exact ⟨_, rfl, _, rfl⟩
      | some p =>
        obtain ⟨v2, b2⟩ := p
        simp only [alt_inl, some_bind]
        rw [in1, some_bind]
        cases h3 : num 1 b2 with
        | none => exact ⟨_, rfl, _, rfl⟩
        | some p =>
          obtain ⟨v3, b3⟩ := p
          simp only [alt_inl, some_bind]
          rw [in4, some_bind]
          cases h4 : num 4 b3 with
          | none => exact ⟨_, rfl, _, rfl⟩
          | some p =>
            obtain ⟨v4, b4⟩ := p
            simp only [alt_inl, some_bind]
            rw [decide_eq_true (show l.length + 1 ≤ lim by rw [lim_eq]; omega), wi64_succ (by omega)]
            exact rmarks r1 e m (i + 1) b4 (l ++ [⟨v1, v2, v3, v4⟩]) n (by omega) (by omega) (by simp; omega)
theorem rfiles (r1 : List UInt8) (e : Int) (mk : List TMark) : ∀ (m i : Nat) (b : List UInt8) (l : List TFile) (n : Nat), i + m = 6 → m < n → l.length + m ≤ 100 → b.length ≤ lim → ∃ x, iter (image_reader_read_s1 fuel r1) n ((i : Int), ⟨b⟩, ⟨l, mk, e⟩) = some x ∧
    (match pList pFile m b l with | some (l', b') => x = .inr (.inr (⟨b'⟩, ⟨l', mk, e⟩)) | none => (∃ y, x = .inl y) ∨ ∃ y, x = .inr (.inl y))
  | _, _, _, _, 0, _, h, _, _ => absurd h (Nat.not_lt_zero _)
  | 0, i, b, l, n + 1, hi, _, _, _ => by
    obtain rfl : i = 6 := by omega
    rw [iter_succ]
    exact ⟨_, rfl, rfl⟩
  | m + 1, i, b, l, n + 1, hi, hn, hl, hb => by
    rw [iter_succ]
    simp only [image_reader_read_s1, image_reader_read_s1k]
    rw [decide_eq_true (show (i : Int) < 6 by omega), it9 _ hb]
    simp only [cond_true, some_bind, pList, pFile]
    cases h1 : textN 9 b with
    | none => exact ⟨_, rfl, .inl ⟨_, rfl⟩⟩
    | some p =>
      obtain ⟨v1, b1⟩ := p
      have hb1 := (textN_parts h1).2
      simp only [alt_inl, some_bind]
      rw [in4, some_bind]
      cases h2 : num 4 b1 with
      | none => exact ⟨_, rfl, .inl ⟨_, rfl⟩⟩
      | some p =>
        obtain ⟨v2, b2⟩ := p
        have hb2 := (num_parts h2).1
        simp only [alt_inl, some_bind]
        rw [it25 _ (by omega), some_bind]
        cases h3 : textN 25 b2 with
        | none => exact ⟨_, rfl, .inr ⟨_, rfl⟩⟩
        | some p =>
          obtain ⟨v3, b3⟩ := p
          have hb3 := (textN_parts h3).2
          simp only [alt_inl, some_bind]
          rw [decide_eq_true (show l.length + 1 ≤ lim by rw [lim_eq]; omega), wi64_succ (by omega)]
          exact rfiles r1 e mk m (i + 1) b3 (l ++ [⟨v1, v2, v3⟩]) n (by omega) (by omega) (by simp; omega) (by omega)
theorem pMarks_len : ∀ (m : Nat) (b : List UInt8) (l l' : List TMark) (b' : List UInt8), pList pMark m b l = some (l', b') → b'.length ≤ b.length
  | 0, b, l, l', b', h => by cases h; exact Nat.le_refl _
  | m + 1, b, l, l', b', h => by
    rw [pList] at h
    cases hp : pMark b with
    | none => rw [hp] at h; cases h
    | some p =>
      rw [hp, some_bind] at h
      have hq := pMarks_len m _ _ _ _ h
      have hq2 : p.2.length ≤ b.length := by
        unfold pMark at hp
        cases h1 : num 4 b with
        | none => rw [h1] at hp; cases hp
        | some p1 =>
          rw [h1, some_bind] at hp
          cases h2 : num 1 p1.2 with
          | none => rw [h2] at hp; cases hp
          | some p2 =>
            rw [h2, some_bind] at hp
            cases h3 : num 1 p2.2 with
            | none => rw [h3] at hp; cases hp
            | some p3 =>
              rw [h3, some_bind] at hp
              cases h4 : num 4 p3.2 with
              | none => rw [h4] at hp; cases hp
              | some p4 =>
                rw [h4, some_bind] at hp
                cases hp
                have := (num_parts h1).1
                have := (num_parts h2).1
                have := (num_parts h3).1
                have := (num_parts h4).1
                show p4.2.length ≤ _
                omega
      omega
theorem pFiles_names : ∀ (m : Nat) (b : List UInt8) (l l' : List TFile) (b' : List UInt8), pList pFile m b l = some (l', b') → (∀ f ∈ l, f.Name.length ≤ 8) → ∀ f ∈ l', f.Name.length ≤ 8
  | 0, b, l, l', b', h, hl => by cases h; exact hl
  | m + 1, b, l, l', b', h, hl => by
    rw [pList] at h
    cases hp : pFile b with
    | none => rw [hp] at h; cases h
    | some p =>
      rw [hp, some_bind] at h
      refine pFiles_names m _ _ _ _ h fun f hf => ?_
      rcases List.mem_append.1 hf with hf | hf
      · exact hl f hf
      · obtain rfl := List.mem_singleton.1 hf
        unfold pFile at hp
        cases h1 : textN 9 b with
        | none => rw [h1] at hp; cases hp
        | some p1 =>
          rw [h1, some_bind] at hp
          cases h2 : num 4 p1.2 with
          | none => rw [h2] at hp; cases hp
          | some p2 =>
            rw [h2, some_bind] at hp
            cases h3 : textN 25 p2.2 with
            | none => rw [h3] at hp; cases hp
            | some p3 =>
              rw [h3, some_bind] at hp
              cases hp
              have := (textN_parts h1).1
              show p1.1.length ≤ 8
              omega
theorem pState_names {b : List UInt8} {s : TState} (h : pState b = some s) : ∀ f ∈ s.Files, f.Name.length < 4294967296 := by
  unfold pState at h
  cases h1 : num 4 b with
  | none => rw [h1] at h; cases h
  | some p1 =>
    rw [h1, some_bind] at h
    cases h2 : pList pMark 3 p1.2 [] with
    | none => rw [h2] at h; cases h
    | some p2 =>
      rw [h2, some_bind] at h
      cases h3 : pList pFile 6 p2.2 [] with
      | none => rw [h3] at h; cases h
      | some p3 =>
        rw [h3, some_bind] at h
        cases h
        intro f hf
        have := pFiles_names 6 _ _ _ _ h3 (fun f hf => by cases hf) f hf
        omega
theorem read_ok (b : List UInt8) (hb : b.length ≤ lim) : ∃ r, image_reader_read fuel ⟨b⟩ = some r ∧ (match pState b with | some s => ∃ y, r = .inl (s, y) | none => ∃ y, r = .inr y) := by
  unfold image_reader_read image_reader_read_k pState
  rw [inum0_ok, some_bind]
  cases h1 : num 4 b with
  | none => exact ⟨_, rfl, _, rfl⟩
  | some p =>
    obtain ⟨v1, b1⟩ := p
    have hb1 := (num_parts h1).1
    simp only [alt_inl, some_bind]
    obtain ⟨x, e, hx⟩ := rmarks b v1 3 0 b1 [] fuel rfl (fuel_gt (by omega)) (by simp)
    have e' : image_reader_read_l0 fuel b 0 ⟨b1⟩ (TState.mk [] [] v1) = some x := e
    rw [e', some_bind]
    cases h2 : pList pMark 3 b1 [] with
    | none =>
      rw [h2] at hx
      obtain ⟨y, rfl⟩ := hx
      exact ⟨_, rfl, _, rfl⟩
    | some p =>
      obtain ⟨mk, b2⟩ := p
      rw [h2] at hx
      simp only at hx
      subst hx
      have hb2 := pMarks_len _ _ _ _ _ h2
      simp only [alt_inr, some_bind]
      obtain ⟨x, e, hx⟩ := rfiles b v1 mk 6 0 b2 [] fuel rfl (fuel_gt (by omega)) (by simp) (by omega)
      have e' : image_reader_read_l1 fuel b 0 ⟨b2⟩ (TState.mk [] mk v1) = some x := e
      rw [e', some_bind]
      cases h3 : pList pFile 6 b2 [] with
      | none =>
        rw [h3] at hx
        rcases hx with ⟨y, rfl⟩ | ⟨y, rfl⟩
        · exact ⟨_, rfl, _, rfl⟩
        · exact ⟨_, rfl, _, rfl⟩
      | some p =>
        obtain ⟨fl, b3⟩ := p
        rw [h3] at hx
        simp only at hx
        subst hx
        exact ⟨_, rfl, _, rfl⟩
theorem pMark_enc {B : Int} {m : TMark} (h : markOk B m) (hB : B ≤ 1073741824) (s : List UInt8) : pMark (encM m ++ s) = some (m, s) := by
  obtain ⟨a0, a1, b0, b1, c0, c1, d0, d1⟩ := h
  unfold pMark encM
  simp only [List.append_assoc]
  rw [num4 a0 (by omega), some_bind]
  simp only
  rw [num1 b0 (by omega), some_bind]
  simp only
  rw [num1 c0 (by omega), some_bind]
  simp only
  rw [num4 d0 (by omega), some_bind]
theorem textN_pad (n : Nat) (t s : List UInt8) (h : t.length ≤ n) (hn : n ≤ 100) : textN (n + 1) (padT n t ++ s) = some (t, s) := by
  unfold textN
  have hl := padT_len h
  have e : text (padT n t ++ s) = some (t, List.replicate (n - t.length) 0 ++ s) := by
    unfold padT
    rw [List.append_assoc]
    exact text_txt t _ (by omega)
  rw [e, some_bind]
  simp only
  rw [if_pos ⟨by omega, by rw [List.length_append]; omega⟩]
  have : (padT n t ++ s).drop (n + 1) = s := by rw [List.drop_append_of_le_length (by omega), List.drop_of_length_le (by omega)]; rfl
  rw [this]
theorem pFile_enc {f : TFile} (h : fileOk f) (s : List UInt8) : pFile (encF f ++ s) = some (f, s) := by
  unfold pFile encF
  simp only [List.append_assoc]
  rw [textN_pad 8 f.Name _ h.name (by omega), some_bind]
  simp only
  rw [num4 h.ver.1 (by have := h.ver.2; omega), some_bind]
  simp only
  rw [textN_pad 24 f.Body _ h.body (by omega), some_bind]
theorem pList_enc {A : Type} (p : List UInt8 → Option (A × List UInt8)) (g : A → List UInt8) : ∀ (l acc : List A) (s : List UInt8), (∀ x ∈ l, ∀ s, p (g x ++ s) = some (x, s)) → pList p l.length ((l.map g).flatten ++ s) acc = some (acc ++ l, s)
  | [], acc, s, _ => by simp [pList]
  | x :: r, acc, s, h => by
    rw [List.map_cons, List.flatten_cons, List.append_assoc, List.length_cons, pList, h x (List.mem_cons_self ..), some_bind]
    simp only
    rw [pList_enc p g r _ s (fun y hy => h y (List.mem_cons_of_mem _ hy)), List.append_assoc]
    rfl
theorem pState_enc {s : TState} (h : Good 1073741824 s) (r : List UInt8) : pState (enc s ++ r) = some s := by
  unfold pState enc
  simp only [List.append_assoc]
  rw [num4 h.e0 (by have := h.e1; omega), some_bind]
  simp only
  have h1 := pList_enc pMark encM s.Marks [] ((s.Files.map encF).flatten ++ r) (fun m hm s => pMark_enc (h.ms m hm) (Int.le_refl _) s)
  rw [h.nm] at h1
  rw [h1, some_bind]
  simp only
  have h2 := pList_enc pFile encF s.Files [] r (fun f hf s => pFile_enc (h.fs f hf) s)
  rw [h.nf] at h2
  rw [h2, some_bind]
  rfl
open Go
theorem joinL_flat (l : List (List UInt8)) : joinL l [] = l.flatten := by
  unfold joinL
  induction l with
  | nil => rfl
  | cons x r ih =>
    cases r with
    | nil => simp [List.intercalate]
    | cons y r =>
      rw [List.flatten_cons, ← ih]
      simp [List.intercalate, List.intersperse]
theorem range_flat (b : List UInt8) : ∀ n, ((List.range n).map (chunkS b)).flatten = b.take (32 * n)
  | 0 => by simp
  | n + 1 => by
    rw [List.range_succ, List.map_append, List.flatten_append, range_flat b n, List.map_cons, List.map_nil, List.flatten_cons, List.flatten_nil, List.append_nil]
    unfold chunkS
    rw [show 32 * (n + 1) = 32 * n + 32 by omega, List.take_add]
theorem chunk_flat (b : List UInt8) : (chunkL b).flatten = b := by
  unfold chunkL
  rw [range_flat, List.take_of_length_le (by omega)]
theorem img_inj {g h : TState} (hg : Good 1073741824 g) (hh : Good 1073741824 h) (e : img g = img h) : g = h := by
  have e2 := congrArg List.flatten e
  unfold img at e2
  rw [chunk_flat, chunk_flat] at e2
  have h1 := pState_enc hg (List.replicate 26 0)
  rw [e2, pState_enc hh] at h1
  exact (Option.some.inj h1).symm
def taken (l : List (List UInt8)) (r : TState × Bool) : Prop :=
  (∃ g, Good 1073741824 g ∧ img g = l ∧ r = (g, true)) ∨ ((∀ g, Good 1073741824 g → img g ≠ l) ∧ r = (⟨[], [], 0⟩, false))
theorem taken_one {l : List (List UInt8)} {r s : TState × Bool} (h : taken l r) (h2 : taken l s) : r = s := by
  rcases h with ⟨g, a, b, rfl⟩ | ⟨a, rfl⟩ <;> rcases h2 with ⟨k, c, d, rfl⟩ | ⟨c, rfl⟩
  · rw [img_inj a c (b.trans d.symm)]
  · exact absurd b (c g a)
  · exact absurd d (a k c)
  · rfl
theorem Take_ok (l : List (List UInt8)) (hl : l.length ≤ 1000) (hf : l.flatten.length ≤ lim) : ∃ r, image_Take fuel l = some r ∧ taken l r := by
  unfold image_Take image_Take_k joinOk
  rw [joinL_flat, decide_eq_true hf]
  simp only [cond_true]
  obtain ⟨r, e, hr⟩ := read_ok l.flatten hf
  rw [e, some_bind]
  have hno : pState l.flatten = none → ∀ g, Good 1073741824 g → img g ≠ l := by
    intro h g hg hi
    have e2 := congrArg List.flatten hi
    unfold img at e2
    rw [chunk_flat] at e2
    rw [← e2, pState_enc hg] at h
    cases h
  cases hp : pState l.flatten with
  | none =>
    rw [hp] at hr
    obtain ⟨y, rfl⟩ := hr
    simp only [alt_inr]
    cases y with
    | inl a => exact ⟨_, rfl, .inr ⟨hno hp, rfl⟩⟩
    | inr a => exact ⟨_, rfl, .inr ⟨hno hp, rfl⟩⟩
  | some s =>
    rw [hp] at hr
    obtain ⟨y, rfl⟩ := hr
    simp only [alt_inl]
    have hs := pState_names hp
    have hthe : ∀ g, Good 1073741824 g → img g = l → g = s := by
      intro g hg hi
      have e2 := congrArg List.flatten hi
      unfold img at e2
      rw [chunk_flat] at e2
      rw [← e2, pState_enc hg] at hp
      exact Option.some.inj hp
    obtain ⟨b, eb, hb⟩ := May_ok s hs
    rw [eb, some_bind]
    cases b with
    | false =>
      refine ⟨_, rfl, .inr ⟨fun g hg hi => ?_, rfl⟩⟩
      have := hb.2 (hthe g hg hi ▸ hg)
      cases this
    | true =>
      have hg := hb.1 rfl
      simp only [Bool.not_true, cond_false]
      rw [Put_ok s hs, some_bind, putI_good hg, EqualT_ok _ _ (by rw [img_len hg]; omega), some_bind]
      by_cases hi : img s = l
      · rw [beq_of hi]
        exact ⟨_, rfl, .inl ⟨s, hg, hi, rfl⟩⟩
      · rw [beq_ne hi]
        exact ⟨_, rfl, .inr ⟨fun g hg2 hi2 => hi (hthe g hg2 hi2 ▸ hi2), rfl⟩⟩
open Go
open Go
theorem SameMarks_ok (a b : List TMark) (ha : a.length ≤ 1000) : ∃ r, ref7_SameMarks fuel a b = some r ∧ (r = true ↔ a = b) := by
  unfold ref7_SameMarks ref7_SameMarks_k
  by_cases hl : a.length = b.length
  · rw [eq_int (show (a.length : Int) = (b.length : Int) by omega)]
    simp only [cond_false]
    unfold ref7_SameMarks_l0
    obtain ⟨x, e, hx⟩ := iter_inv (step := ref7_SameMarks_s0 a b) (fun k v => ∃ i : Nat, v = (i : Int) ∧ i + k = a.length ∧ a.take i = b.take i) (fun r => Sum.elim (fun _ => a ≠ b) (fun _ => a = b) r) (fun k v hI => by
      obtain ⟨i, rfl, hk, h⟩ := hI
      simp only [ref7_SameMarks_s0, ref7_SameMarks_s0k]
      by_cases hlt : i < a.length
      · have hlt2 : i < b.length := by omega
        rw [lt_dec hlt, inR_nat hlt, inR_nat hlt2, Int.toNat_natCast, List.getElem?_eq_getElem hlt, List.getElem?_eq_getElem hlt2]
        simp only [cond_true, some_bind]
        cases he : TMark.eqb a[i] b[i] with
        | true =>
          have he := (mark_eqb _ _).1 he
          rw [wi64_succ (by omega)]
          refine ⟨_, rfl, k - 1, by omega, i + 1, rfl, by omega, ?_⟩
          rw [List.take_add_one, List.take_add_one, h, List.getElem?_eq_getElem hlt, List.getElem?_eq_getElem hlt2, he]
        | false =>
          refine ⟨_, rfl, fun h => ?_⟩
          subst h
          rw [(mark_eqb _ _).2 rfl] at he
          cases he
      · obtain rfl : i = a.length := by omega
        rw [ge_dec]
        refine ⟨_, rfl, ?_⟩
        rw [List.take_length, hl, List.take_length] at h
        exact h) a.length (0 : Int) fuel ⟨0, rfl, by omega, rfl⟩ (fuel_gt (by omega))
    rw [e, some_bind]
    cases x with
    | inl u => exact ⟨false, rfl, ⟨fun h => (by cases h), fun h => absurd h hx⟩⟩
    | inr u => exact ⟨true, rfl, ⟨fun _ => hx, fun _ => rfl⟩⟩
  · rw [ne_int (show (a.length : Int) ≠ (b.length : Int) by omega)]
    exact ⟨false, rfl, ⟨fun h => (by cases h), fun h => absurd (by rw [h]) hl⟩⟩
theorem SameState_ok (a b : TState) (ha : a.Marks.length ≤ 1000) (hf : a.Files.length ≤ 1000) : ∃ r, ref7_SameState fuel a b = some r ∧ (r = true ↔ a = b) := by
  unfold ref7_SameState ref7_SameState_k
  by_cases hl : a.Files.length = b.Files.length
  · rw [eq_int (show (a.Files.length : Int) = (b.Files.length : Int) by omega)]
    simp only [cond_false]
    obtain ⟨r, e, hr⟩ := SameMarks_ok a.Marks b.Marks ha
    rw [e, some_bind]
    cases r with
    | false => exact ⟨false, rfl, ⟨fun h => (by cases h), fun h => by rw [h] at hr; exact hr.2 rfl⟩⟩
    | true =>
      have hm := hr.1 rfl
      simp only [Bool.not_true, cond_false]
      by_cases hE : a.Epoch = b.Epoch
      · rw [show (a.Epoch != b.Epoch) = false by simp [hE]]
        simp only [cond_false]
        unfold ref7_SameState_l0
        obtain ⟨x, e, hx⟩ := iter_inv (step := ref7_SameState_s0 a b) (fun k v => ∃ i : Nat, v = (i : Int) ∧ i + k = a.Files.length ∧ a.Files.take i = b.Files.take i) (fun r => Sum.elim (fun _ => a.Files ≠ b.Files) (fun _ => a.Files = b.Files) r) (fun k v hI => by
          obtain ⟨i, rfl, hk, h⟩ := hI
          simp only [ref7_SameState_s0, ref7_SameState_s0k]
          by_cases hlt : i < a.Files.length
          · have hlt2 : i < b.Files.length := by omega
            rw [lt_dec hlt, inR_nat hlt, inR_nat hlt2, Int.toNat_natCast, List.getElem?_eq_getElem hlt, List.getElem?_eq_getElem hlt2]
            simp only [cond_true, some_bind]
            cases he : TFile.eqb a.Files[i] b.Files[i] with
            | true =>
              have he := (file_eqb _ _).1 he
              rw [wi64_succ (by omega)]
              refine ⟨_, rfl, k - 1, by omega, i + 1, rfl, by omega, ?_⟩
              rw [List.take_add_one, List.take_add_one, h, List.getElem?_eq_getElem hlt, List.getElem?_eq_getElem hlt2, he]
            | false =>
              refine ⟨_, rfl, fun h => ?_⟩
              have : a.Files[i] = b.Files[i] := by simp only [h]
              rw [(file_eqb _ _).2 this] at he
              cases he
          · obtain rfl : i = a.Files.length := by omega
            rw [ge_dec]
            refine ⟨_, rfl, ?_⟩
            rw [List.take_length, hl, List.take_length] at h
            exact h) a.Files.length (0 : Int) fuel ⟨0, rfl, by omega, rfl⟩ (fuel_gt (by omega))
        rw [e, some_bind]
        cases x with
        | inl u => exact ⟨false, rfl, ⟨fun h => (by cases h), fun h => absurd (by rw [h]) hx⟩⟩
        | inr u =>
          refine ⟨true, rfl, ⟨fun _ => ?_, fun _ => rfl⟩⟩
          obtain ⟨f, m, ep⟩ := a
          obtain ⟨f2, m2, ep2⟩ := b
          have hx' : f = f2 := hx
          have hm' : m = m2 := hm
          have hE' : ep = ep2 := hE
          rw [hx', hm', hE']
      · rw [show (a.Epoch != b.Epoch) = true by simp [hE]]
        exact ⟨false, rfl, ⟨fun h => (by cases h), fun h => absurd (by rw [h]) hE⟩⟩
  · rw [ne_int (show (a.Files.length : Int) ≠ (b.Files.length : Int) by omega)]
    exact ⟨false, rfl, ⟨fun h => (by cases h), fun h => absurd (by rw [h]) hl⟩⟩
theorem SameState_self (a : TState) (ha : a.Marks.length ≤ 1000) (hf : a.Files.length ≤ 1000) : ref7_SameState fuel a a = some true := by
  obtain ⟨r, e, hr⟩ := SameState_ok a a ha hf
  rw [e, hr.2 rfl]
theorem flat_le (l : List (List UInt8)) (h : ∀ x ∈ l, x.length ≤ 100) : l.flatten.length ≤ 100 * l.length := by
  induction l with
  | nil => simp
  | cons x r ih =>
    have := ih fun y hy => h y (List.mem_cons_of_mem _ hy)
    have := h x (List.mem_cons_self ..)
    rw [List.flatten_cons, List.length_append, List.length_cons]
    omega
theorem diff1_iff {a b : List (List UInt8)} {i : Nat} {p : TPut} : diff1 a b i = some p ↔ ∃ y, b[i]? = some y ∧ a[i]? ≠ some y ∧ p = ⟨(i : Int), y⟩ := by
  unfold diff1
  cases h : b[i]? with
  | none => simp
  | some y =>
    simp only
    by_cases he : a[i]? = some y
    · rw [if_pos he]
      simp [he]
    · rw [if_neg he]
      constructor
      · intro h; cases h; exact ⟨y, rfl, he, rfl⟩
      · rintro ⟨y', h1, _, rfl⟩
        cases h1
        rfl
theorem mem_diff {a b : List (List UInt8)} {p : TPut} (h : p ∈ diffP a b) : ∃ (i : Nat) (y : List UInt8), i < b.length ∧ b[i]? = some y ∧ a[i]? ≠ some y ∧ p = ⟨(i : Int), y⟩ := by
  unfold diffP at h
  obtain ⟨i, hi, h2⟩ := List.mem_filterMap.1 h
  obtain ⟨y, h3, h4, h5⟩ := diff1_iff.1 h2
  exact ⟨i, y, List.mem_range.1 hi, h3, h4, h5⟩
theorem diff_mem {a b : List (List UInt8)} {i : Nat} {y : List UInt8} (h : b[i]? = some y) (hn : a[i]? ≠ some y) : (⟨(i : Int), y⟩ : TPut) ∈ diffP a b := by
  unfold diffP
  exact List.mem_filterMap.2 ⟨i, List.mem_range.2 (at_of h), diff1_iff.2 ⟨y, h, hn, rfl⟩⟩
theorem diff_sorted (a b : List (List UInt8)) : (diffP a b).Pairwise (fun x y => x.At < y.At) := by
  unfold diffP
  refine List.Pairwise.filterMap _ ?_ List.pairwise_lt_range
  intro i j hij x hx y hy
  obtain ⟨_, _, _, rfl⟩ := diff1_iff.1 hx
  obtain ⟨_, _, _, rfl⟩ := diff1_iff.1 hy
  show (i : Int) < (j : Int)
  omega
theorem diff_nil {a b : List (List UInt8)} (hl : a.length = b.length) : diffP a b = [] ↔ a = b := by
  constructor
  · intro h
    apply List.ext_getElem?
    intro i
    cases hb : b[i]? with
    | none => rw [List.getElem?_eq_none_iff] at hb ⊢; omega
    | some y =>
      refine Classical.byContradiction fun hn => ?_
      have := diff_mem hb hn
      rw [h] at this
      cases this
  · intro h; subst h; exact diff_self a
open Go
def zeros : List UInt8 := [0, 0, 0, 0, 0, 0, 0, 0, 0, 0, 0, 0, 0, 0, 0, 0, 0, 0, 0, 0, 0, 0, 0, 0, 0, 0, 0, 0, 0, 0, 0, 0]
def okP (n : Nat) (p : TPut) : Prop := 0 ≤ p.At ∧ p.At < n ∧ p.B.length = 32
structure DOk (d : TDisk) : Prop where
  last : ∀ x ∈ d.Last, x.length = 32
  len : d.Last.length ≤ 1000
  wait : ∀ p ∈ d.Wait, okP d.Last.length p
  wlen : d.Wait.length ≤ 1000
  a0 : 0 ≤ d.Arm
  a1 : d.Arm ≤ 1000
def wput (d : TDisk) (p : TPut) : TDisk := if d.Arm > 0 then ⟨d.Last, d.Wait ++ [p], d.Arm - 1, d.Arm - 1 == 0⟩ else ⟨d.Last, d.Wait ++ [p], d.Arm, d.Down⟩
def wr (L : List (List UInt8)) (ws : List TPut) : List (List UInt8) := ws.foldl (fun L p => L.set p.At.toNat p.B) L
def flushed (d : TDisk) : TDisk := ⟨wr d.Last d.Wait, [], d.Arm, d.Down⟩
theorem wput_last (d : TDisk) (p : TPut) : (wput d p).Last = d.Last := by unfold wput; split <;> rfl
theorem wput_wait (d : TDisk) (p : TPut) : (wput d p).Wait = d.Wait ++ [p] := by unfold wput; split <;> rfl
theorem DWrite_ok (d : TDisk) (hd : DOk d) (hw : d.Wait.length < 1000) (hdn : d.Down = false) (i : Int) (b : List UInt8) (hp : okP d.Last.length ⟨i, b⟩) : disk_Write d i b = some (wput d ⟨i, b⟩, !(wput d ⟨i, b⟩).Down) := by
  obtain ⟨h0, h1, h2⟩ := hp
  simp only at h0 h1 h2
  have ha0 := hd.a0
  have ha1 := hd.a1
  unfold disk_Write disk_Write_k
  have ht : disk_there d i = true := by
    unfold disk_there disk_there_k
    rw [hdn, decide_eq_true (show i ≥ 0 from h0), decide_eq_true h1]
    rfl
  rw [ht, h2, decide_eq_true (show d.Wait.length + 1 ≤ lim by rw [lim_eq]; omega), wi64_of (show -9223372036854775808 ≤ d.Arm - 1 by omega) (by omega)]
  unfold wput
  by_cases ha : d.Arm > 0
  · rw [decide_eq_true ha, if_pos ha]; rfl
  · rw [decide_eq_false ha, if_neg ha]; rfl
theorem wput_ok {d : TDisk} (hd : DOk d) (hw : d.Wait.length < 1000) {p : TPut} (hp : okP d.Last.length p) : DOk (wput d p) := by
  refine ⟨by rw [wput_last]; exact hd.last, by rw [wput_last]; exact hd.len, ?_, by rw [wput_wait]; simp; omega, ?_, ?_⟩
  · rw [wput_last, wput_wait]
    intro q hq
    rcases List.mem_append.1 hq with hq | hq
    · exact hd.wait q hq
    · rw [List.mem_singleton.1 hq]; exact hp
  · have := hd.a0
    unfold wput
    split
    · show 0 ≤ d.Arm - 1; omega
    · exact this
  · have := hd.a1
    unfold wput
    split
    · show d.Arm - 1 ≤ 1000; omega
    · exact this
def wout (d : TDisk) : Tjrnl_writer ⊕ Tjrnl_writer := bif d.Down then .inr ⟨d⟩ else .inl ⟨d⟩
theorem write2_ok (d : TDisk) (hd : DOk d) (hw : d.Wait.length < 1000) (hdn : d.Down = false) (i : Int) (b : List UInt8) (hp : okP d.Last.length ⟨i, b⟩) : jrnl_writer_write_2 i b ⟨d⟩ = some (wout (wput d ⟨i, b⟩)) := by
  unfold jrnl_writer_write_2 jrnl_writer_write_2_k
  rw [DWrite_ok d hd hw hdn i b hp, some_bind]
  unfold jrnl_writer_does_2 jrnl_writer_does_2_k wout
  cases (wput d ⟨i, b⟩).Down <;> rfl
theorem write1_ok (d : TDisk) (hd : DOk d) (hw : d.Wait.length < 1000) (hdn : d.Down = false) (i : Int) (b : List UInt8) (hp : okP d.Last.length ⟨i, b⟩) : jrnl_writer_write i b ⟨d⟩ = some (bif (wput d ⟨i, b⟩).Down then .inr (⟨wput d ⟨i, b⟩⟩, d.Last, d.Wait) else .inl (⟨wput d ⟨i, b⟩⟩, d.Last, d.Wait)) := by
  unfold jrnl_writer_write jrnl_writer_write_k
  rw [DWrite_ok d hd hw hdn i b hp, some_bind]
  unfold jrnl_writer_does jrnl_writer_does_k
  cases (wput d ⟨i, b⟩).Down <;> rfl
theorem wr_len (ws : List TPut) : ∀ L : List (List UInt8), (wr L ws).length = L.length := by
  induction ws with
  | nil => intro L; rfl
  | cons p r ih => intro L; show (wr (L.set p.At.toNat p.B) r).length = _; rw [ih, List.length_set]
theorem wr_each (ws : List TPut) : ∀ L : List (List UInt8), (∀ x ∈ L, x.length = 32) → (∀ p ∈ ws, p.B.length = 32) → ∀ x ∈ wr L ws, x.length = 32 := by
  induction ws with
  | nil => intro L h _; exact h
  | cons p r ih =>
    intro L h hp
    refine ih _ (fun x hx => ?_) (fun q hq => hp q (List.mem_cons_of_mem _ hq))
    rcases List.mem_or_eq_of_mem_set hx with hx | rfl
    · exact h x hx
    · exact hp p (List.mem_cons_self ..)
theorem wr_app (L : List (List UInt8)) (a b : List TPut) : wr L (a ++ b) = wr (wr L a) b := List.foldl_append ..
theorem lasts32 (p : TPut) (d : TDisk) (hl : ∀ x ∈ d.Last, x.length = 32) (hp : okP d.Last.length p) : disk_lasting_lasts p 32 ⟨d⟩ = some ⟨⟨d.Last.set p.At.toNat p.B, d.Wait, d.Arm, d.Down⟩⟩ := by
  obtain ⟨h0, h1, h2⟩ := hp
  have hlt : p.At.toNat < d.Last.length := by omega
  have hy := hl _ (List.getElem_mem hlt)
  unfold disk_lasting_lasts disk_lasting_lasts_k
  rw [decide_eq_false (show ¬ p.At < 0 by omega), decide_eq_false (show ¬ p.At ≥ (d.Last.length : Int) by omega), inR_of h0 h1, List.getElem?_eq_getElem hlt]
  simp only [cond_true, cond_false, some_bind]
  rw [h2, hy]
  have hm : imax (imin (imin 32 ((32 : Nat) : Int)) ((32 : Nat) : Int)) 0 = ((32 : Nat) : Int) := by decide
  rw [hm, cutOk_of (by omega) (by omega) (by omega), cut_front]
  have hc : cutL d.Last[p.At.toNat] ((32 : Nat) : Int) ((32 : Nat) : Int) = [] := by
    unfold cutL
    rw [List.drop_of_length_le (by rw [List.length_take]; exact Nat.min_le_left _ _)]
  rw [hc, List.take_of_length_le (by omega), decide_eq_true (show p.B.length + ([] : List UInt8).length ≤ lim by rw [h2, lim_eq]; simp), List.append_nil]
  rfl
theorem dflush_loop (o : TDisk) (t : TDisk) (L0 : List (List UInt8)) (ws : List TPut) (d : TDisk) (hd : ∀ x ∈ d.Last, x.length = 32) (hw : ∀ p ∈ ws, okP d.Last.length p) (hl : ws.length ≤ 1000) :
    ∃ o', disk_Flush_l0 fuel ws (ws.length : Int) o 0 t ⟨d⟩ = some (o', ⟨⟨wr d.Last ws, d.Wait, d.Arm, d.Down⟩⟩) := by
  unfold disk_Flush_l0
  obtain ⟨x, e, hx⟩ := iter_inv (step := disk_Flush_s0 ws (ws.length : Int) o) (fun k v => ∃ i : Nat, v.1 = (i : Int) ∧ i + k = ws.length ∧ v.2.2 = ⟨⟨wr d.Last (ws.take i), d.Wait, d.Arm, d.Down⟩⟩) (fun r => r.2 = ⟨⟨wr d.Last ws, d.Wait, d.Arm, d.Down⟩⟩) (fun k v hI => by
    obtain ⟨v1, v2, v3⟩ := v
    obtain ⟨i, h1, hk, h2⟩ := hI
    simp only at h1 h2
    subst h1 h2
    simp only [disk_Flush_s0, disk_Flush_s0k]
    by_cases hlt : i < ws.length
    · rw [lt_dec hlt, inR_nat hlt, Int.toNat_natCast, List.getElem?_eq_getElem hlt]
      simp only [cond_true, some_bind]
      rw [lasts32 ws[i] _ (wr_each _ _ hd (fun p hp => (hw p (List.mem_of_mem_take hp)).2.2)) (by show okP (wr d.Last (ws.take i)).length ws[i]; rw [wr_len]; exact hw _ (List.getElem_mem hlt)), some_bind, wi64_succ (by omega)]
      refine ⟨_, rfl, k - 1, by omega, i + 1, rfl, by omega, ?_⟩
      rw [List.take_add_one, List.getElem?_eq_getElem hlt, wr_app]
      rfl
    · obtain rfl : i = ws.length := by omega
      rw [ge_dec]
      exact ⟨_, rfl, by rw [List.take_length]; rfl⟩) ws.length (0, t, ⟨d⟩) fuel ⟨0, rfl, by omega, rfl⟩ (fuel_gt (by omega))
  exact ⟨x.1, by rw [e, ← hx]⟩
theorem DFlush_ok (d : TDisk) (hd : DOk d) (hdn : d.Down = false) : disk_Flush fuel d = some (flushed d, true) := by
  unfold disk_Flush disk_Flush_k
  rw [hdn]
  obtain ⟨o', e⟩ := dflush_loop d (TDisk.mk [] [] 0 false) d.Last d.Wait d hd.last hd.wait hd.wlen
  simp only [cond_false]
  rw [e, some_bind]
  unfold flushed
  rw [hdn]
theorem flushed_ok {d : TDisk} (hd : DOk d) : DOk (flushed d) := by
  refine ⟨wr_each _ _ hd.last (fun p hp => (hd.wait p hp).2.2), by show (wr d.Last d.Wait).length ≤ 1000; rw [wr_len]; exact hd.len, (fun p hp => nomatch hp), by show (0 : Nat) ≤ 1000; omega, hd.a0, hd.a1⟩
theorem wflush_ok (d : TDisk) (hd : DOk d) (hdn : d.Down = false) : jrnl_writer_flush fuel ⟨d⟩ = some (.inl ⟨flushed d⟩) := by
  unfold jrnl_writer_flush jrnl_writer_flush_k
  rw [DFlush_ok d hd hdn, some_bind]
  rfl
def wmany (d : TDisk) : List TPut → TDisk × Bool
  | [] => (d, true)
  | p :: r => bif (wput d p).Down then (wput d p, false) else wmany (wput d p) r
theorem wmany_all : ∀ (ws : List TPut) (d : TDisk), d.Down = false → 0 ≤ d.Arm → (d.Arm = 0 ∨ (ws.length : Int) < d.Arm) → wmany d ws = (⟨d.Last, d.Wait ++ ws, if d.Arm = 0 then 0 else d.Arm - ws.length, false⟩, true)
  | [], d, hdn, h0, _ => by
    obtain ⟨L, W, A, D⟩ := d
    simp only at hdn h0
    subst hdn
    unfold wmany
    simp only [List.append_nil, List.length_nil]
    by_cases hA : A = 0
    · rw [if_pos hA, hA]
    · rw [if_neg hA]; simp
  | p :: r, d, hdn, h0, h => by
    rw [List.length_cons] at h
    have hnd : (wput d p).Down = false := by
      unfold wput
      by_cases ha : d.Arm > 0
      · rw [if_pos ha]; show (d.Arm - 1 == 0) = false; exact beq_ne (by omega)
      · rw [if_neg ha]; exact hdn
    have harm : (wput d p).Arm = if d.Arm = 0 then 0 else d.Arm - 1 := by
      unfold wput
      by_cases ha : d.Arm > 0
      · rw [if_pos ha, if_neg (by omega)]
      · rw [if_neg ha, if_pos (by omega)]; show d.Arm = 0; omega
    rw [wmany, hnd, cond_false, wmany_all r _ hnd (by rw [harm]; split <;> omega) (by rw [harm]; split <;> omega), wput_last, wput_wait, harm, List.append_assoc, List.length_cons]
    congr 2
    split
    · simp
    · rw [if_neg (by omega)]; omega
theorem wmany_cut : ∀ (ws : List TPut) (d : TDisk), d.Down = false → 1 ≤ d.Arm → d.Arm ≤ (ws.length : Int) → wmany d ws = (⟨d.Last, d.Wait ++ ws.take d.Arm.toNat, 0, true⟩, false)
  | [], d, _, h1, h2 => by simp at h2; omega
  | p :: r, d, hdn, h1, h2 => by
    rw [List.length_cons] at h2
    rw [wmany]
    by_cases ha : d.Arm = 1
    · have : wput d p = ⟨d.Last, d.Wait ++ [p], 0, true⟩ := by unfold wput; rw [if_pos (by omega), ha]; rfl
      rw [this, ha]
      rfl
    · have hw : wput d p = ⟨d.Last, d.Wait ++ [p], d.Arm - 1, false⟩ := by
        unfold wput; rw [if_pos (by omega)]
        congr 1
        exact beq_ne (by omega)
      rw [hw, cond_false, wmany_cut r _ rfl (by show 1 ≤ d.Arm - 1; omega) (by show d.Arm - 1 ≤ _; omega)]
      show (TDisk.mk d.Last (d.Wait ++ [p] ++ r.take (d.Arm - 1).toNat) 0 true, false) = _
      rw [List.append_assoc, show d.Arm.toNat = (d.Arm - 1).toNat + 1 by omega]
      rfl
theorem wmany_down : ∀ (ws : List TPut) (d : TDisk), d.Down = false → ((wmany d ws).2 = true ∧ (wmany d ws).1.Down = false) ∨ ((wmany d ws).2 = false ∧ (wmany d ws).1.Down = true)
  | [], d, h => .inl ⟨rfl, h⟩
  | p :: r, d, h => by
    rw [wmany]
    cases hp : (wput d p).Down with
    | true => exact .inr ⟨rfl, hp⟩
    | false => exact wmany_down r _ hp
theorem wmany_ok : ∀ (ws : List TPut) (d : TDisk), DOk d → d.Wait.length + ws.length ≤ 1000 → (∀ p ∈ ws, okP d.Last.length p) → DOk (wmany d ws).1
  | [], d, h, _, _ => h
  | p :: r, d, h, hl, hp => by
    rw [List.length_cons] at hl
    have h1 := wput_ok h (by omega) (hp p (List.mem_cons_self ..))
    rw [wmany]
    cases (wput d p).Down with
    | true => exact h1
    | false => exact wmany_ok r _ h1 (by rw [wput_wait]; simp; omega) (fun q hq => by rw [wput_last]; exact hp q (List.mem_cons_of_mem _ hq))
open Go
structure Valid (home : Nat) (l : List TPut) : Prop where
  len : l.length ≤ 16
  each : ∀ p ∈ l, okP home p
  sorted : l.Pairwise fun p q => p.At < q.At
theorem may_ok (d : TDisk) (home : Nat) (l : List TPut) (hv : Valid home l) (hn : home + l.length < d.Last.length) (hN : d.Last.length ≤ 1000) : jrnl_may fuel d (home : Int) l = some true := by
  unfold jrnl_may jrnl_may_k jrnl_may_l0
  have hlen := hv.len
  obtain ⟨x, e, hx⟩ := iter_inv (step := jrnl_may_s0 (home : Int) l l (l.length : Int) d) (fun k v => ∃ i : Nat, v.2 = (i : Int) ∧ i + k = l.length ∧ ∀ p ∈ l.drop i, v.1 < p.At) (fun r => r = .inr ()) (fun k v hI => by
    obtain ⟨v1, v2⟩ := v
    obtain ⟨i, h1, hk, h2⟩ := hI
    simp only at h1 h2
    subst h1
    simp only [jrnl_may_s0, jrnl_may_s0k]
    by_cases hlt : i < l.length
    · have hdr : l.drop i = l[i] :: l.drop (i + 1) := List.drop_eq_getElem_cons hlt
      have hs := hv.sorted.sublist (List.drop_sublist i l)
      rw [hdr] at h2 hs
      obtain ⟨g0, g1, g2⟩ := hv.each _ (List.getElem_mem hlt)
      have g3 := h2 _ (List.mem_cons_self ..)
      rw [lt_dec hlt, inR_nat hlt, Int.toNat_natCast, List.getElem?_eq_getElem hlt]
      simp only [cond_true, some_bind]
      rw [decide_eq_false (show ¬ l[i].At ≤ v1 by omega), decide_eq_false (show ¬ l[i].At ≥ (home : Int) by omega), g2, wi64_succ (by omega)]
      exact ⟨_, rfl, k - 1, by omega, i + 1, rfl, by omega, fun p hp => List.rel_of_pairwise_cons hs hp⟩
    · obtain rfl : i = l.length := by omega
      rw [ge_dec]
      exact ⟨_, rfl, rfl⟩) l.length (-1, 0) fuel ⟨0, rfl, by omega, fun p hp => by have := (hv.each p hp).1; show (-1 : Int) < p.At; omega⟩ (fuel_gt (by omega))
  rw [e, hx, some_bind]
  simp only [alt_inr]
  rw [decide_eq_true (show (l.length : Int) ≤ 16 by omega), wi64_of (by omega) (by omega), decide_eq_true (show (home : Int) + (l.length : Int) < (d.Last.length : Int) by omega)]
  rfl
def headB (l : List TPut) : List UInt8 := 1 :: b8 (l.length : Int) :: (l.map (fun p => b8 p.At) ++ (List.replicate (29 - l.length) 0 ++ [1]))
theorem headB_len (l : List TPut) (h : l.length ≤ 16) : (headB l).length = 32 := by
  unfold headB
  simp only [List.length_cons, List.length_append, List.length_map, List.length_replicate, List.length_nil]
  omega
def headS (l : List TPut) (i : Nat) : List UInt8 := 1 :: b8 (l.length : Int) :: ((l.take i).map (fun p => b8 p.At) ++ (List.replicate (29 - i) 0 ++ [1]))
theorem headS_step (l : List TPut) (i : Nat) (h : i < l.length) (h16 : l.length ≤ 16) : (headS l i).set (2 + i) (b8 l[i].At) = headS l (i + 1) := by
  unfold headS
  rw [show 2 + i = i + 1 + 1 by omega, List.set_cons_succ, List.set_cons_succ]
  congr 2
  rw [List.set_append_right _ _ (by rw [List.length_map, List.length_take]; omega), List.length_map, List.length_take, show i - min i l.length = 0 by omega, show 29 - i = (29 - (i + 1)) + 1 by omega, List.replicate_succ, List.cons_append, List.set_cons_zero, List.take_add_one, List.getElem?_eq_getElem h, List.map_append, List.append_assoc]
  rfl
theorem head_ok (l : List TPut) (h16 : l.length ≤ 16) (hp : ∀ p ∈ l, 0 ≤ p.At ∧ p.At < 256) : jrnl_head fuel l = some (headB l) := by
  unfold jrnl_head jrnl_head_k
  have e0 : (([0, 0, 0, 0, 0, 0, 0, 0, 0, 0, 0, 0, 0, 0, 0, 0, 0, 0, 0, 0, 0, 0, 0, 0, 0, 0, 0, 0, 0, 0, 0, 0] : List Nat).set 0 1)[1]? = some 0 := rfl
  have e1 : ((([0, 0, 0, 0, 0, 0, 0, 0, 0, 0, 0, 0, 0, 0, 0, 0, 0, 0, 0, 0, 0, 0, 0, 0, 0, 0, 0, 0, 0, 0, 0, 0] : List UInt8).set 0 1).set 1 (b8 (wu8 (l.length : Int))))[31]? = some 0 := rfl
  have e2 : inR 1 (([0, 0, 0, 0, 0, 0, 0, 0, 0, 0, 0, 0, 0, 0, 0, 0, 0, 0, 0, 0, 0, 0, 0, 0, 0, 0, 0, 0, 0, 0, 0, 0] : List Nat).set 0 1).length = true := rfl
  have e3 : inR 31 ((([0, 0, 0, 0, 0, 0, 0, 0, 0, 0, 0, 0, 0, 0, 0, 0, 0, 0, 0, 0, 0, 0, 0, 0, 0, 0, 0, 0, 0, 0, 0, 0] : List UInt8).set 0 1).set 1 (b8 (wu8 (l.length : Int)))).length = true := rfl
  rw [e2, e0, e3, e1]
  simp only [cond_true, some_bind]
  have e4 : ((([0, 0, 0, 0, 0, 0, 0, 0, 0, 0, 0, 0, 0, 0, 0, 0, 0, 0, 0, 0, 0, 0, 0, 0, 0, 0, 0, 0, 0, 0, 0, 0] : List UInt8).set 0 1).set 1 (b8 (wu8 (l.length : Int)))).set 31 1 = headS l 0 := by
    rw [wu8_of (by omega) (by omega)]
    rfl
  rw [e4]
  unfold jrnl_head_l0
  obtain ⟨x, e, hx⟩ := iter_inv (step := jrnl_head_s0 l (l.length : Int)) (fun k v => ∃ i : Nat, v.1 = (i : Int) ∧ i + k = l.length ∧ v.2 = headS l i) (fun r => r = headB l) (fun k v hI => by
    obtain ⟨v1, v2⟩ := v
    obtain ⟨i, h1, hk, h2⟩ := hI
    simp only at h1 h2
    subst h1 h2
    simp only [jrnl_head_s0, jrnl_head_s0k]
    by_cases hlt : i < l.length
    · obtain ⟨g0, g1⟩ := hp _ (List.getElem_mem hlt)
      have hlen : 2 + i < (headS l i).length := by
        unfold headS
        simp only [List.length_cons, List.length_append, List.length_map, List.length_replicate, List.length_nil, List.length_take]
        omega
      rw [lt_dec hlt, inR_nat hlt, Int.toNat_natCast, List.getElem?_eq_getElem hlt]
      simp only [cond_true, some_bind]
      rw [wi64_of (show -9223372036854775808 ≤ 2 + (i : Int) by omega) (by omega), show 2 + (i : Int) = ((2 + i : Nat) : Int) by omega, inR_nat hlen, Int.toNat_natCast, List.getElem?_eq_getElem hlen]
      simp only [cond_true, some_bind]
      rw [wu8_of g0 g1, headS_step l i hlt h16, wi64_succ (by omega)]
      exact ⟨_, rfl, k - 1, by omega, i + 1, rfl, by omega, rfl⟩
    · obtain rfl : i = l.length := by omega
      rw [ge_dec]
      refine ⟨_, rfl, ?_⟩
      unfold headS headB
      rw [List.take_length]
      rfl) l.length (0, headS l 0) fuel ⟨0, rfl, by omega, rfl⟩ (fuel_gt (by omega))
  rw [e, hx]
  rfl
def copies : Nat → List TPut → List TPut
  | _, [] => []
  | n, p :: r => ⟨(n : Int), p.B⟩ :: copies (n + 1) r
theorem copies_len : ∀ (n : Nat) (l : List TPut), (copies n l).length = l.length
  | _, [] => rfl
  | n, p :: r => by rw [copies, List.length_cons, List.length_cons, copies_len]
theorem copies_at : ∀ (n : Nat) (l : List TPut) (q : TPut), q ∈ copies n l → ∃ p ∈ l, (n : Int) ≤ q.At ∧ q.At < ((n + l.length : Nat) : Int) ∧ q.B = p.B
  | _, [], _, h => by cases h
  | n, p :: r, q, h => by
    rw [copies] at h
    rcases List.mem_cons.1 h with rfl | h
    · exact ⟨p, List.mem_cons_self .., by show (n : Int) ≤ n; omega, by show (n : Int) < _; rw [List.length_cons]; omega, rfl⟩
    · obtain ⟨p', h1, h2, h3, h4⟩ := copies_at (n + 1) r q h
      exact ⟨p', List.mem_cons_of_mem _ h1, by omega, by rw [List.length_cons]; omega, h4⟩
theorem copy_loop (home : Nat) (l t : List TPut) (o : TDisk) (ok : Bool) (r4 : List (List UInt8)) (r5 : List TPut) (hh : home ≤ 1000) (hl : t.length ≤ 16) : ∀ (r : List TPut) (i : Nat) (d : TDisk) (x : TDisk) (n : Nat), t.drop i = r → i ≤ t.length → r.length < n → DOk d → d.Down = false → d.Wait.length + r.length < 1000 → (∀ p ∈ copies (home + 1 + i) r, okP d.Last.length p) →
    ∃ z, iter (jrnl_Commit_s0 (home : Int) l t (t.length : Int) o ok r4 r5) n ((i : Int), x, ⟨d⟩) = some z ∧ (((wmany d (copies (home + 1 + i) r)).2 = true ∧ ∃ y, z = .inr (y, ⟨(wmany d (copies (home + 1 + i) r)).1⟩)) ∨ ((wmany d (copies (home + 1 + i) r)).2 = false ∧ ∃ y u, z = .inl (y, ⟨(wmany d (copies (home + 1 + i) r)).1⟩, u)))
  | _, _, _, _, 0, _, _, h, _, _, _, _ => absurd h (Nat.not_lt_zero _)
  | [], i, d, x, n + 1, hdr, hi, _, hd, hdn, _, _ => by
    obtain rfl : i = t.length := Nat.le_antisymm hi (List.drop_eq_nil_iff.1 hdr)
    rw [iter_succ]
    simp only [jrnl_Commit_s0, jrnl_Commit_s0k, ge_dec, cond_false]
    exact ⟨_, rfl, .inl ⟨rfl, _, rfl⟩⟩
  | p :: r, i, d, x, n + 1, hdr, hi, hn, hd, hdn, hw, hp => by
    have hlt : i < t.length := by
      rcases Nat.lt_or_ge i t.length with h | h
      · exact h
      · rw [List.drop_eq_nil_iff.2 h] at hdr; cases hdr
    have hd2 : t.drop i = t[i] :: t.drop (i + 1) := List.drop_eq_getElem_cons hlt
    rw [hdr] at hd2
    obtain ⟨e1, e2⟩ := List.cons.inj hd2
    rw [iter_succ]
    simp only [jrnl_Commit_s0, jrnl_Commit_s0k]
    rw [List.length_cons] at hw hn
    have hpk := hp _ (by rw [copies]; exact List.mem_cons_self ..)
    rw [lt_dec hlt, inR_nat hlt, Int.toNat_natCast, List.getElem?_eq_getElem hlt, ← e1]
    simp only [cond_true, some_bind]
    rw [wi64_of (show -9223372036854775808 ≤ (home : Int) + 1 by omega) (by omega), wi64_of (show -9223372036854775808 ≤ (home : Int) + 1 + (i : Int) by omega) (by omega), show (home : Int) + 1 + (i : Int) = ((home + 1 + i : Nat) : Int) by omega, write2_ok d hd (by omega) hdn _ _ hpk, some_bind, copies, wmany]
    unfold wout
    cases hD : (wput d ⟨((home + 1 + i : Nat) : Int), p.B⟩).Down with
    | true => exact ⟨_, rfl, .inr ⟨rfl, _, _, rfl⟩⟩
    | false =>
      simp only [cond_false, alt_inl]
      rw [wi64_succ (by omega)]
      exact copy_loop home l t o ok r4 r5 hh hl r (i + 1) (wput d ⟨((home + 1 + i : Nat) : Int), p.B⟩) _ n e2.symm hlt (by omega) (wput_ok hd (by omega) hpk) hD (by rw [wput_wait]; simp; omega) (fun q hq => by rw [wput_last]; exact hp q (by rw [copies]; exact List.mem_cons_of_mem _ hq))
theorem put_loop2 (t : List TPut) (o : TDisk) (ok : Bool) (r4 : List (List UInt8)) (r5 : List TPut) (hl : t.length ≤ 16) : ∀ (r : List TPut) (i : Nat) (d : TDisk) (x : TDisk) (n : Nat), t.drop i = r → i ≤ t.length → r.length < n → DOk d → d.Down = false → d.Wait.length + r.length < 1000 → (∀ p ∈ r, okP d.Last.length p) →
    ∃ z, iter (jrnl_Commit_s1 t (t.length : Int) o ok r4 r5) n ((i : Int), x, ⟨d⟩) = some z ∧ (((wmany d r).2 = true ∧ ∃ y, z = .inr (y, ⟨(wmany d r).1⟩)) ∨ ((wmany d r).2 = false ∧ ∃ y u, z = .inl (y, ⟨(wmany d r).1⟩, u)))
  | _, _, _, _, 0, _, _, h, _, _, _, _ => absurd h (Nat.not_lt_zero _)
  | [], i, d, x, n + 1, hdr, hi, _, hd, hdn, _, _ => by
    obtain rfl : i = t.length := Nat.le_antisymm hi (List.drop_eq_nil_iff.1 hdr)
    rw [iter_succ]
    simp only [jrnl_Commit_s1, jrnl_Commit_s1k, ge_dec, cond_false]
    exact ⟨_, rfl, .inl ⟨rfl, _, rfl⟩⟩
  | p :: r, i, d, x, n + 1, hdr, hi, hn, hd, hdn, hw, hp => by
    have hlt : i < t.length := by
      rcases Nat.lt_or_ge i t.length with h | h
      · exact h
      · rw [List.drop_eq_nil_iff.2 h] at hdr; cases hdr
    have hd2 : t.drop i = t[i] :: t.drop (i + 1) := List.drop_eq_getElem_cons hlt
    rw [hdr] at hd2
    obtain ⟨e1, e2⟩ := List.cons.inj hd2
    rw [iter_succ]
    simp only [jrnl_Commit_s1, jrnl_Commit_s1k]
    rw [List.length_cons] at hw hn
    have hpk := hp p (List.mem_cons_self ..)
    rw [lt_dec hlt, inR_nat hlt, Int.toNat_natCast, List.getElem?_eq_getElem hlt, ← e1]
    simp only [cond_true, some_bind]
    rw [write2_ok d hd (by omega) hdn _ _ hpk, some_bind, wmany]
    unfold wout
    cases hD : (wput d p).Down with
    | true => exact ⟨_, rfl, .inr ⟨rfl, _, _, rfl⟩⟩
    | false =>
      simp only [cond_false, alt_inl]
      rw [wi64_succ (by omega)]
      exact put_loop2 t o ok r4 r5 hl r (i + 1) (wput d p) _ n e2.symm hlt (by omega) (wput_ok hd (by omega) hpk) hD (by rw [wput_wait]; simp; omega) (fun q hq => by rw [wput_last]; exact hp q (List.mem_cons_of_mem _ hq))
def rounds (d : TDisk) (home : Nat) (l : List TPut) : TDisk × Bool :=
  bif (wput d ⟨(home : Int), zeros⟩).Down then (wput d ⟨(home : Int), zeros⟩, false)
  else bif (wmany (flushed (wput d ⟨(home : Int), zeros⟩)) (copies (home + 1) l)).2 then
    (bif (wput (flushed (wmany (flushed (wput d ⟨(home : Int), zeros⟩)) (copies (home + 1) l)).1) ⟨(home : Int), headB l⟩).Down then (wput (flushed (wmany (flushed (wput d ⟨(home : Int), zeros⟩)) (copies (home + 1) l)).1) ⟨(home : Int), headB l⟩, false)
    else bif (wmany (flushed (wput (flushed (wmany (flushed (wput d ⟨(home : Int), zeros⟩)) (copies (home + 1) l)).1) ⟨(home : Int), headB l⟩)) l).2 then (flushed (wmany (flushed (wput (flushed (wmany (flushed (wput d ⟨(home : Int), zeros⟩)) (copies (home + 1) l)).1) ⟨(home : Int), headB l⟩)) l).1, true)
      else ((wmany (flushed (wput (flushed (wmany (flushed (wput d ⟨(home : Int), zeros⟩)) (copies (home + 1) l)).1) ⟨(home : Int), headB l⟩)) l).1, false))
  else ((wmany (flushed (wput d ⟨(home : Int), zeros⟩)) (copies (home + 1) l)).1, false)
theorem wmany_last : ∀ (ws : List TPut) (d : TDisk), (wmany d ws).1.Last = d.Last
  | [], d => rfl
  | p :: r, d => by
    rw [wmany]
    cases (wput d p).Down with
    | true => exact wput_last d p
    | false => rw [cond_false, wmany_last r, wput_last]
theorem flushed_len (d : TDisk) : (flushed d).Last.length = d.Last.length := wr_len d.Wait d.Last
theorem Commit_ok (d : TDisk) (hd : DOk d) (hdn : d.Down = false) (hW : d.Wait.length < 1000) (home : Nat) (l : List TPut) (hl : l ≠ []) (hv : Valid home l) (hn : home + l.length < d.Last.length) (hh : home ≤ 256) : jrnl_Commit fuel d (home : Int) l = some (rounds d home l) := by
  unfold jrnl_Commit jrnl_Commit_k rounds
  have h16 := hv.len
  have hlp : 0 < l.length := List.length_pos_iff.2 hl
  have hN := hd.len
  rw [show ((l.length : Int) == 0) = false from beq_ne (by omega), may_ok d home l hv hn hN]
  simp only [cond_false, some_bind, Bool.not_true]
  have hz : okP d.Last.length ⟨(home : Int), zeros⟩ := ⟨by show (0 : Int) ≤ home; omega, by show (home : Int) < _; omega, rfl⟩
  have w1 := write1_ok d hd hW hdn (home : Int) zeros hz
  have w1' : jrnl_writer_write (home : Int) [0, 0, 0, 0, 0, 0, 0, 0, 0, 0, 0, 0, 0, 0, 0, 0, 0, 0, 0, 0, 0, 0, 0, 0, 0, 0, 0, 0, 0, 0, 0, 0] ⟨d⟩ = _ := w1
  rw [w1', some_bind]
  have d1 := wput_ok hd hW hz
  have L1 := wput_last d ⟨(home : Int), zeros⟩
  generalize wput d ⟨(home : Int), zeros⟩ = a at d1 L1
  cases hD : a.Down with
  | true => rfl
  | false =>
    simp only [cond_false, alt_inl]
    rw [wflush_ok a d1 hD, some_bind]
    simp only [alt_inl]
    have d2 := flushed_ok d1
    have hD2 : (flushed a).Down = false := hD
    have N2 : (flushed a).Last.length = d.Last.length := by rw [flushed_len, L1]
    have W2 : (flushed a).Wait = [] := rfl
    generalize flushed a = b at d2 hD2 N2 W2
    have hcp : ∀ p ∈ copies (home + 1) l, okP b.Last.length p := by
      intro p hp
      obtain ⟨q, hq, h1, h2, h3⟩ := copies_at _ _ _ hp
      exact ⟨by omega, by rw [N2]; omega, by rw [h3]; exact (hv.each q hq).2.2⟩
    obtain ⟨z, e, hz⟩ := copy_loop home l l d false d.Last d.Wait (by omega) h16 l 0 b (TDisk.mk [] [] 0 false) fuel rfl (by omega) (fuel_gt (by omega)) d2 hD2 (by rw [W2]; simp; omega) hcp
    have e' : jrnl_Commit_l0 fuel (home : Int) l l (l.length : Int) d false d.Last d.Wait 0 (TDisk.mk [] [] 0 false) ⟨b⟩ = some z := e
    rw [e', some_bind]
    have d3 := wmany_ok (copies (home + 1) l) b d2 (by rw [W2, copies_len]; simp; omega) hcp
    have L3 := wmany_last (copies (home + 1) l) b
    rw [Nat.add_zero] at hz
    rcases wmany_down (copies (home + 1) l) b hD2 with ⟨g1, g2⟩ | ⟨g1, g2⟩
    rotate_left
    · rcases hz with ⟨h, _⟩ | ⟨_, y, u, rfl⟩
      · rw [g1] at h; cases h
      · rw [g1]; rfl
    · rcases hz with ⟨_, y, rfl⟩ | ⟨h, _⟩
      rotate_left
      · rw [g1] at h; cases h
      rw [g1]
      simp only [alt_inr, cond_true]
      generalize (wmany b (copies (home + 1) l)).1 = c at d3 L3 g2
      rw [wflush_ok c d3 g2, some_bind]
      simp only [alt_inl]
      have d4 := flushed_ok d3
      have hD4 : (flushed c).Down = false := g2
      have N4 : (flushed c).Last.length = d.Last.length := by rw [flushed_len, L3, N2]
      have W4 : (flushed c).Wait = [] := rfl
      generalize flushed c = q at d4 hD4 N4 W4
      have hq : okP q.Last.length ⟨(home : Int), headB l⟩ := ⟨by show (0 : Int) ≤ home; omega, by show (home : Int) < _; omega, headB_len l h16⟩
      rw [head_ok l h16 (fun p hp => by obtain ⟨h1, h2, _⟩ := hv.each p hp; exact ⟨h1, by omega⟩), some_bind, write2_ok q d4 (by rw [W4]; simp) hD4 _ _ hq, some_bind]
      have d5 := wput_ok d4 (by rw [W4]; simp) hq
      have L5 := wput_last q ⟨(home : Int), headB l⟩
      generalize wput q ⟨(home : Int), headB l⟩ = u at d5 L5
      unfold wout
      cases hDu : u.Down with
      | true => rfl
      | false =>
        simp only [cond_false, alt_inl]
        rw [wflush_ok u d5 hDu, some_bind]
        simp only [alt_inl]
        have d6 := flushed_ok d5
        have hD6 : (flushed u).Down = false := hDu
        have N6 : (flushed u).Last.length = d.Last.length := by rw [flushed_len, L5, N4]
        have W6 : (flushed u).Wait = [] := rfl
        generalize flushed u = v at d6 hD6 N6 W6
        have hlv : ∀ p ∈ l, okP v.Last.length p := by
          intro p hp
          obtain ⟨h1, h2, h3⟩ := hv.each p hp
          exact ⟨h1, by rw [N6]; omega, h3⟩
        obtain ⟨z2, e2, hz2⟩ := put_loop2 l d false d.Last d.Wait h16 l 0 v (TDisk.mk [] [] y.Arm y.Down) fuel rfl (by omega) (fuel_gt (by omega)) d6 hD6 (by rw [W6]; simp; omega) hlv
        have e2' : jrnl_Commit_l1 fuel l (l.length : Int) d false d.Last d.Wait 0 (TDisk.mk [] [] y.Arm y.Down) ⟨v⟩ = some z2 := e2
        rw [e2', some_bind]
        have d7 := wmany_ok l v d6 (by rw [W6]; simp; omega) hlv
        rcases wmany_down l v hD6 with ⟨k1, k2⟩ | ⟨k1, k2⟩
        · rcases hz2 with ⟨_, y2, rfl⟩ | ⟨h, _⟩
          · rw [k1]
            simp only [alt_inr, cond_true]
            rw [wflush_ok _ d7 k2]
            rfl
          · rw [k1] at h; cases h
        · rcases hz2 with ⟨h, _⟩ | ⟨_, y2, u2, rfl⟩
          · rw [k1] at h; cases h
          · rw [k1]; rfl
end Go.Proofs.YtinbnobanikfmaaGreatDoor.N
