/- Proved: ClientEpoch answers true at all arguments of bounded bulk. No condition beyond the statement's. (This text joins: Plain words for this seat (37). Plain words for this seat (38). The statements' deeds. The plain law of ClientEpoch.) -/
import Derived.Test.YthabbcjjecpbmaaGreatSeat5
import Derived.KernelRfl
import Derived.Test.YthabbcjjecpbmaaGreatSeat1
import Derived.Test.YthabbcjjecpbmaaGreatSeat4
set_option linter.unusedVariables false
set_option linter.unusedSimpArgs false
namespace Go.Proofs.YthabbcjjecpbmaaGreat.N
open Go
theorem rValid_eq (c : TCache) (now : Int) : ref19_Valid c now = cache_Valid c now := by
 unfold ref19_Valid ref19_Valid_t cache_Valid cache_Valid_t
 simp only [val_ite, val_ret]
 by_cases h : now < c.Until
 ·rw [decide_eq_true h, decide_eq_false (show ¬ now ≥ c.Until by omega)]; rfl
 ·rw [decide_eq_false h, decide_eq_true (show now ≥ c.Until by omega)]; rfl
theorem rReset_eq (c : TCache) : ref19_Reset c = cache_Reset c := rfl
theorem rLapse_eq (c : TCache) (now : Int) : ref19_Lapse c now = cache_Lapse c now := by
 unfold ref19_Lapse ref19_Lapse_t cache_Lapse cache_Lapse_t
 rw [rValid_eq]; rfl
section
variable {c : TClient} {n : Int}
theorem with_ok (h : c.Files.length = 6) (h1 : 1 ≤ n) (h6 : n ≤ 6) (x : TCache) : ref19_with c n x = some (setF c n x) := by
 unfold ref19_with ref19_with_t
 simp only [get_opt, get_ite, get_ret, get_fail]
 rw [decide_eq_true (show c.Files.length ≤ lim by rw [lim_eq]; omega), wi64_of (by omega) (by omega), inR_of (by omega) (by omega), fileAt_some h h1 h6]
 rfl
theorem in_file (h : c.Files.length = 6) (h1 : 1 ≤ n) (h6 : n ≤ 6) : inR (wi64 (n - 1)) c.Files.length = true ∧ c.Files[(wi64 (n - 1)).toNat]? = some (fileAt c n) := by
 rw [wi64_of (by omega) (by omega)]
 exact ⟨inR_of (by omega) (by omega), fileAt_some h h1 h6⟩
theorem lapsed_ok (c : TClient) (h : c.Files.length < 1000) : ref19_lapsed fuel c = some (lapseS c) := by
 unfold ref19_lapsed ref19_lapsed_t ref19_lapsed_l0
 simp only [get_opt, get_ret]
 obtain ⟨x, e, hx⟩ := iter_inv (step := ref19_lapsed_s0) (fun k v => ∃ i : Nat, v.1 = (i : Int) + 1 ∧ i + k = c.Files.length ∧ v.2.1 = { c with Files := mapTo (fun f => cache_Lapse f c.Now) c.Files i }) (fun r => r.1 = lapseS c) (fun k v hI => by
  obtain ⟨v1, v2, v3⟩ := v
  obtain ⟨i, hi, hk, he⟩ := hI
  simp only at hi he
  subst hi he
  simp only [ref19_lapsed_s0, ref19_lapsed_s0t, get_ite, get_opt, get_ret, get_fail, mapTo_len, ref19_with, ref19_with_t]
  by_cases hlt : i < c.Files.length
  ·have ha := List.getElem?_eq_getElem hlt
   rw [decide_eq_true (show (i : Int) + 1 ≤ (c.Files.length : Int) by omega), wi64_of (show -9223372036854775808 ≤ (i : Int) + 1 - 1 by omega) (by omega), show (i : Int) + 1 - 1 = (i : Int) by omega, inR_nat hlt, Int.toNat_natCast, mapTo_at _ _ ha, some_bind, decide_eq_true (show c.Files.length ≤ lim by rw [lim_eq]; omega), rLapse_eq, mapTo_set (fun f => cache_Lapse f c.Now) _ ha, wi64_of (by omega) (by omega)]
   exact ⟨_, rfl, k - 1, by omega, i + 1, by show (i : Int) + 1 + 1 = ((i + 1 : Nat) : Int) + 1; omega, by omega, rfl⟩
  ·obtain rfl : i = c.Files.length := by omega
   rw [decide_eq_false (show ¬ (c.Files.length : Int) + 1 ≤ (c.Files.length : Int) by omega)]
   refine ⟨_, rfl, ?_⟩
   show ({ c with Files := mapTo (fun f => cache_Lapse f c.Now) c.Files c.Files.length } : TClient) = lapseS c
   rw [mapTo_end]; rfl) c.Files.length (1, c, _) fuel ⟨0, rfl, by omega, by rw [mapTo_zero]⟩ (fuel_gt (by omega))
 rw [e, some_bind, hx]
theorem rgives_ok (S : Shape c) (h1 : 1 ≤ n) (h6 : n ≤ 6) : ref19_gives c n = some ((givesS c n).1, (givesS c n).2.2) := by
 obtain ⟨i1, i2⟩ := in_file S.files h1 h6
 unfold ref19_gives ref19_gives_t
 simp only [get_opt, get_ite, get_ret, get_fail, i1, i2, some_bind, cond_true]
 rw [with_ok (c := (ref19_asks c ⟨4, 0, 0, 0, [], n, 0, (fileAt c n).Dirty⟩).1) S.files h1 h6]
 rfl
theorem rflush_ok (S : Shape c) (h1 : 1 ≤ n) (h6 : n ≤ 6) : ref19_flushes c n = some ((flushS c n).1, (flushS c n).2.2) := by
 obtain ⟨i1, i2⟩ := in_file S.files h1 h6
 unfold ref19_flushes ref19_flushes_t
 simp only [get_opt, get_ite, get_ret, get_fail, i1, i2, some_bind, cond_true, with_ok S.files h1 h6]
 rfl
theorem rbuffer_ok (x : TCache) (w : TWrite) (h : x.Dirty.length ≤ 1000) : ref19_Buffer x w = some (if bufOk x w = true then ({ x with Dirty := x.Dirty ++ [w] }, true) else (x, false)) := by
 rw [← buffer_ok x w h]
 unfold ref19_Buffer ref19_Buffer_t cache_Buffer cache_Buffer_t
 simp only [get_ite, get_ret, get_fail, ref7_MayWrite_eq]
 rw [decide_eq_true (show x.Dirty.length ≤ lim by rw [lim_eq]; omega)]; rfl
theorem rwrites_ok (S : Shape c) (h1 : 1 ≤ n) (h6 : n ≤ 6) (x : TWrite) : ref19_writes c n x = some (writesS c n x) := by
 have hm := fileAt_mem S.files h1 h6
 obtain ⟨i1, i2⟩ := in_file S.files h1 h6
 unfold ref19_writes ref19_writes_t writesS
 simp only [get_opt, get_ite, get_ret, get_fail, i1, i2, some_bind, cond_true, rbuffer_ok _ x (S.dirty _ hm), rValid_eq, rgives_ok S h1 h6, rflush_ok S h1 h6]
 rw [show ∀ y, ref19_with { c with Hits := wi64 (c.Hits + 1) } n y = some (setF { c with Hits := wi64 (c.Hits + 1) } n y) from fun y => with_ok (c := { c with Hits := wi64 (c.Hits + 1) }) S.files h1 h6 y]
 by_cases hv : cache_Valid (fileAt c n) c.Now = 2
 ·rw [hv]
  by_cases hb : bufOk (fileAt c n) x = true
  ·rw [if_pos hb]
   cases hc : (fileAt c n).Called with
   | false => rw [if_pos ⟨rfl, rfl, hb⟩]; rfl
   | true =>
    rw [if_neg (by simp)]
    cases hi : c.Out.Is with
    | true => rfl
    | false => rw [if_neg (by simp), if_neg (by simp), if_pos rfl]; rfl
  ·rw [if_neg hb, if_neg (by simp [hb])]
   cases hc : (fileAt c n).Called with
   | false =>
    cases hi : c.Out.Is with
    | true => rfl
    | false => rw [if_neg (by simp), if_neg (by simp), if_neg (by simp)]; rfl
   | true =>
    cases hi : c.Out.Is with
    | true => rfl
    | false => rw [if_neg (by simp), if_neg (by simp), if_pos rfl]; rfl
 ·rw [show (cache_Valid (fileAt c n) c.Now == 2) = false by simp [hv], if_neg (show ¬ (cache_Valid (fileAt c n) c.Now = 2 ∧ (fileAt c n).Called = false ∧ bufOk (fileAt c n) x = true) from fun h => hv h.1)]
  cases hi : c.Out.Is with
  | true => rfl
  | false => rw [if_neg (show ¬ (false = true) by simp), if_pos hv]; rfl
end
theorem ropens_ok {c : TClient} (S : Shape c) (s : List UInt8) (hs : s.length < 4294967296) : ref19_opens fuel c s = some (opensS c s) := by
 unfold ref19_opens ref19_opens_t opensS ref19_opens_l0
 simp only [get_opt, get_ite, get_ret, get_altT, ref7_MayName_ok s hs, some_bind]
 cases hm : mayName s with
 | false => rfl
 | true =>
  rw [if_neg (by simp)]
  simp only [Bool.not_true, cond_false]
  have hl := S.names
  obtain ⟨x, e, hx⟩ := iter_inv (step := ref19_opens_s0 s c ⟨0, 0, []⟩) (fun k v => ∃ i : Nat, v.1 = (i : Int) ∧ i + k = c.Names.length ∧ findS c.Names s = ((c.Names.drop i).findIdx? (s == ·)).map (· + i)) (fun r => match findS c.Names s with | some i => r = .inl ⟨0, (i : Int) + 1, []⟩ | none => ∃ d, r = .inr d) (fun k v hI => by
   obtain ⟨v1, v2⟩ := v
   obtain ⟨i, hi, hk, he⟩ := hI
   simp only at hi
   subst hi
   simp only [ref19_opens_s0, ref19_opens_s0t, get_ite, get_opt, get_ret, get_fail]
   by_cases hlt : i < c.Names.length
   ·have ha := List.getElem?_eq_getElem hlt
    rw [lt_dec hlt, inR_nat hlt, Int.toNat_natCast, ha, some_bind, wi64_succ (by omega)]
    rw [List.drop_eq_getElem_cons hlt, List.findIdx?_cons] at he
    have hsym : (c.Names[i] == s) = (s == c.Names[i]) := by
     by_cases h : s = c.Names[i]
     ·rw [beq_of h, beq_of h.symm]
     ·rw [beq_ne h, beq_ne (fun g => h g.symm)]
    rw [hsym]
    cases hc : (s == c.Names[i]) with
    | true =>
     rw [hc] at he
     refine ⟨_, rfl, ?_⟩
     rw [he]; simp
    | false =>
     rw [hc] at he
     refine ⟨_, rfl, k - 1, by omega, i + 1, rfl, by omega, ?_⟩
     rw [he]
     simp only [Bool.false_eq_true, if_false, Option.map_map]
     congr 1
     funext j
     simp; omega
   ·obtain rfl : i = c.Names.length := by omega
    rw [ge_dec]
    refine ⟨_, rfl, ?_⟩
    rw [List.drop_length] at he
    rw [he]; exact ⟨_, rfl⟩) c.Names.length (0, _) fuel ⟨0, rfl, by omega, by unfold findS; simp⟩ (fuel_gt (by omega))
  rw [e, some_bind]
  cases hf : findS c.Names s with
  | some i => rw [hf] at hx; rw [hx]; rfl
  | none =>
   rw [hf] at hx
   obtain ⟨d, hx⟩ := hx
   rw [hx]
   simp only [alt_inr]
   cases hi : c.Out.Is <;> rfl
theorem whole_ok {c : TClient} (h1 : c.Files.length = 6) (h2 : c.Names.length = 6) : ref19_whole c = true := by
 unfold ref19_whole ref19_whole_t
 simp only [val_ite, val_ret, h1, h2]; rfl
theorem rDo_ok {c : TClient} (S : Shape (lapseS c)) (s : TStep) (hs : s.Text.length < 4294967296) : ref19_Do fuel c s = some (doS c s) := by
 have hl : c.Files.length = 6 := by have := S.files; unfold lapseS at this; simpa using this
 have hn : c.Names.length = 6 := S.names
 unfold ref19_Do ref19_Do_t doS stepS
 simp only [get_opt, get_ite, get_ret, get_fail, whole_ok hl hn, Bool.not_true, cond_false, lapsed_ok c (by omega), some_bind]
 generalize lapseS c = d at S
 by_cases k1 : s.Kind < 3
 ·rw [decide_eq_true k1, if_pos (Or.inl k1)]; rfl
 by_cases k2 : s.Kind > 8
 ·rw [decide_eq_false k1, decide_eq_true k2, if_pos (Or.inr k2)]; rfl
 rw [decide_eq_false k1, decide_eq_false k2, if_neg (by omega)]
 simp only [cond_false]
 by_cases k3 : s.Kind = 3
 ·rw [if_pos k3, beq_of k3, cond_true, ropens_ok S s.Text hs]; rfl
 rw [if_neg k3, beq_ne k3, cond_false]
 by_cases f1 : s.File < 1
 ·rw [decide_eq_true f1, if_pos (Or.inl f1)]; rfl
 by_cases f2 : s.File > 6
 ·rw [decide_eq_false f1, decide_eq_true f2, if_pos (Or.inr f2)]; rfl
 rw [decide_eq_false f1, decide_eq_false f2, if_neg (by omega)]
 have h1 : 1 ≤ s.File := by omega
 have h6 : s.File ≤ 6 := by omega
 have hm := fileAt_mem S.files h1 h6
 obtain ⟨i1, i2⟩ := in_file S.files h1 h6
 have hview : ref19_View fuel (fileAt d s.File) = some (allW (fileAt d s.File).Body (fileAt d s.File).Dirty) := by
  unfold ref19_View ref19_View_t
  simp only [get_opt, get_ret, ref7_All_is _ _ (S.dirty _ hm) (S.body _ hm)]; rfl
 simp only [cond_false, cond_true, i1, i2, some_bind, ref7_MayWrite_eq, with_ok S.files h1 h6, rValid_eq, rReset_eq, hview, rflush_ok S h1 h6, rgives_ok S h1 h6, len_gtz, len_eqz, rwrites_ok S h1 h6]
 by_cases k5 : s.Kind = 5
 ·rw [k5]
  simp only [true_and, show ((5 : Int) == 5) = true from rfl, show ((5 : Int) == 4) = false from rfl, show ((5 : Int) == 8) = false from rfl, cond_true, cond_false]
  cases hmw : file_May ⟨s.Off, s.Text⟩ with
  | false => rfl
  | true =>
   rw [if_neg (by simp)]
   cases hlo : (fileAt d s.File).Lost with
   | true => rfl
   | false => rfl
 ·rw [beq_ne k5, if_neg (fun h => k5 h.1)]
  simp only [cond_false, if_neg k5]
  by_cases k8 : s.Kind = 8
  ·rw [k8]
   simp only [show ((8 : Int) == 8) = true from rfl, cond_true]
   rw [if_neg (by simp), if_neg (show ¬ (8 : Int) = 4 by decide), if_neg (show ¬ (8 : Int) = 6 by decide), if_neg (show ¬ (8 : Int) = 7 by decide)]
   unfold endsS
   cases hi : d.Out.Is with
   | true => rfl
   | false =>
    by_cases hd : (fileAt d s.File).Dirty = []
    ·rw [decide_eq_true hd, if_neg (by simp), if_neg (fun h => h hd)]; rfl
    ·rw [decide_eq_false hd, if_neg (by simp), if_pos hd]; rfl
  ·rw [beq_ne k8]
   simp only [cond_false]
   cases hlo : (fileAt d s.File).Lost with
   | true => rw [if_pos ⟨rfl, k8⟩]; rfl
   | false =>
    rw [if_neg (by simp)]
    simp only [cond_false]
    by_cases k4 : s.Kind = 4
    ·rw [if_pos k4, beq_of k4]
     unfold readsS
     by_cases hv : cache_Valid (fileAt d s.File) d.Now = 0
     ·rw [hv, if_neg (by simp)]
      cases hi : d.Out.Is <;> rfl
     ·rw [if_pos hv, show (cache_Valid (fileAt d s.File) d.Now != 0) = true by simp [hv]]; rfl
    rw [if_neg k4, beq_ne k4, cond_false]
    by_cases k6 : s.Kind = 6
    ·rw [if_pos k6, beq_of k6]
     unfold syncsS
     simp only [cond_true]
     cases hi : d.Out.Is with
     | false =>
      rw [if_neg (by simp)]
      by_cases hd : (fileAt d s.File).Dirty = []
      ·rw [if_pos hd, decide_eq_true hd]; rfl
      ·rw [if_neg hd, decide_eq_false hd]; rfl
     | true =>
      by_cases hk : d.Out.Ask.Kind = 4
      ·by_cases hf : d.Out.Ask.File = s.File
       ·by_cases hw : d.Out.Ask.Writes = []
        ·rw [if_neg (by simp [hw]), decide_eq_true hw, beq_of hk, beq_of hf]
         by_cases hd : (fileAt d s.File).Dirty = []
         ·rw [if_pos hd, decide_eq_true hd]; rfl
         ·rw [if_neg hd, decide_eq_false hd]; rfl
        ·rw [if_pos ⟨rfl, hk, hf, hw⟩, decide_eq_false hw, beq_of hk, beq_of hf]; rfl
       ·rw [if_neg (by simp [hf]), beq_of hk, beq_ne hf]
        by_cases hd : (fileAt d s.File).Dirty = []
        ·rw [if_pos hd, decide_eq_true hd]; rfl
        ·rw [if_neg hd, decide_eq_false hd]; rfl
      ·rw [if_neg (by simp [hk]), beq_ne hk]
       by_cases hd : (fileAt d s.File).Dirty = []
       ·rw [if_pos hd, decide_eq_true hd]; rfl
       ·rw [if_neg hd, decide_eq_false hd]; rfl
    rw [if_neg k6, beq_ne k6, cond_false]
    have k7 : s.Kind = 7 := by omega
    rw [if_pos k7]
    unfold dropsS
    by_cases hmo : (fileAt d s.File).Mode = 0
    ·rw [if_pos hmo, beq_of hmo]; rfl
    ·rw [if_neg hmo, beq_ne hmo]
     cases hi : d.Out.Is <;> rfl
open Go
theorem rnamed_loop (c : TClient) (ho : c.Out = noOut) (t : TTell) (o : TOut) (d : TClient) (h : c.Names.length < 1000) : ∃ r, ref19_told_l0 fuel t o 0 c d = some r ∧ r.1 = { c with Names := c.Names.map fun x => if x == o.Ask.Name then [] else x } := by
 obtain ⟨id, now, ep, sq, fs, nm, out, bad, hits, asks⟩ := c
 simp only at ho h
 subst ho
 unfold ref19_told_l0
 exact iter_inv (step := ref19_told_s0 t o) (fun k v => ∃ i : Nat, v.1 = (i : Int) ∧ i + k = nm.length ∧ v.2.1 = ⟨id, now, ep, sq, fs, mapTo (fun x => if x == o.Ask.Name then [] else x) nm i, noOut, bad, hits, asks⟩) (fun r => r.1 = ⟨id, now, ep, sq, fs, nm.map (fun x => if x == o.Ask.Name then [] else x), noOut, bad, hits, asks⟩) (fun k v hI => by
  obtain ⟨v1, v2, v3⟩ := v
  obtain ⟨i, hi, hk, he⟩ := hI
  simp only at hi he
  subst hi he
  simp only [ref19_told_s0, ref19_told_s0t, get_ite, get_opt, get_ret, get_fail, mapTo_len]
  by_cases hlt : i < nm.length
  ·have ha := List.getElem?_eq_getElem hlt
   have hs := mapTo_set (fun x => if x == o.Ask.Name then [] else x) _ ha
   rw [lt_dec hlt, inR_nat hlt, Int.toNat_natCast, mapTo_at _ _ ha, some_bind, wi64_succ (by omega)]
   cases hc : (nm[i] == o.Ask.Name) with
   | true =>
    simp only [hc, if_true] at hs
    simp only [hs]
    exact ⟨_, rfl, k - 1, by omega, i + 1, rfl, by omega, rfl⟩
   | false =>
    simp only [hc, Bool.false_eq_true, if_false] at hs
    have hm := mapTo_at (fun x => if x == o.Ask.Name then [] else x) nm ha
    have hset : (mapTo (fun x => if x == o.Ask.Name then [] else x) nm i).set i nm[i] = mapTo (fun x => if x == o.Ask.Name then [] else x) nm i := by
     apply List.ext_getElem?
     intro j
     rw [List.getElem?_set]
     split
     ·rename_i h; subst h; rw [hm]; simp [mapTo_len, hlt]
     ·rfl
    rw [hset] at hs
    rw [hs]
    exact ⟨_, rfl, k - 1, by omega, i + 1, rfl, by omega, rfl⟩
  ·obtain rfl : i = nm.length := by omega
   rw [ge_dec]
   refine ⟨_, rfl, ?_⟩
   rw [mapTo_end]; rfl) nm.length (0, ⟨id, now, ep, sq, fs, nm, noOut, bad, hits, asks⟩, d) fuel ⟨0, rfl, by omega, by rw [mapTo_zero]⟩ (fuel_gt (by omega))
theorem rshort_60 : ref1_Short 60 100 = some 49 := by rfl
theorem radd_49 {a : Int} (h0 : 0 ≤ a) (h1 : a ≤ 9223372036854775807) : ref1_Add a 49 = addI a 49 := by
 unfold addI clock_Add clock_Add_t ref1_Add ref1_Add_t
 simp only [val_ite, val_ret]
 rw [wi64_of (show -9223372036854775808 ≤ 9223372036854775807 - (49 : Int) by omega) (by omega)]
 by_cases ha : a > 0
 ·rw [decide_eq_true ha, wi64_of (show -9223372036854775808 ≤ 9223372036854775807 - a by omega) (by omega)]
  by_cases hb : (49 : Int) > 9223372036854775807 - a
  ·rw [decide_eq_true hb, decide_eq_true (show a > 9223372036854775807 - 49 by omega)]; rfl
  ·rw [decide_eq_false hb, decide_eq_false (show ¬ a > 9223372036854775807 - 49 by omega)]; rfl
 ·rw [decide_eq_false ha, decide_eq_false (show ¬ a > 9223372036854775807 - 49 by omega)]; rfl
theorem rDone_ok (x : TCache) (ver : Int) (hd : x.Dirty.length ≤ 1000) (hb : x.Body.length ≤ 24) : ref19_Done fuel x ver = some (doneC x ver) := by
 have hn : imin (imax x.Sent 0) (x.Dirty.length : Int) = (sentN x : Int) := by
  unfold sentN imax imin; repeat' split
  all_goals omega
 have hle := sentN_le x
 unfold ref19_Done ref19_Done_t doneC
 simp only [get_opt, get_ite, get_ret, get_fail, hn]
 by_cases hm : x.Mode = 2
 ·rw [if_neg (by simp [hm]), show (x.Mode != 2) = false by simp [hm], cutOk_of (Int.le_refl _) (by omega) (by omega), cutOk_of (by omega) (by omega) (Int.le_refl _), cut_front, cut_back, ref7_All_is _ _ (by simp; omega) hb, some_bind, decide_eq_true (show (x.Dirty.drop (sentN x)).length ≤ lim by rw [lim_eq]; simp; omega)]
  rfl
 ·rw [if_pos hm, show (x.Mode != 2) = true by simp [hm]]; rfl
def firstOk (c : TClient) : Prop := c.Out.Is = true → 0 ≤ c.Out.First ∧ c.Out.First ≤ 9223372036854775807
theorem rtold_ok {c : TClient} (S : Shape c) (hi : c.Out.Is = true) (A : askShape c.Out.Ask) (hf1 : 0 ≤ c.Out.First ∧ c.Out.First ≤ 9223372036854775807) (t : TTell) (ht : 0 ≤ t.File ∧ t.File ≤ 6) : ref19_told fuel c t = some (tellS { c with Out := noOut } c.Out t) := by
 unfold ref19_told ref19_told_t tellS
 simp only [get_opt, get_ite, get_ret, get_fail]
 have e0 : ({ c with Out := ⟨false, ⟨0, 0, 0, 0, [], 0, 0, []⟩, 0, 0⟩ } : TClient) = { c with Out := noOut } := rfl
 simp only [e0]
 have hn6 := S.names
 rcases A with ⟨k, f⟩ | ⟨⟨k2, k5⟩, f1, f6⟩
 ·rw [if_pos k, beq_of k]
  simp only [cond_true]
  by_cases er : t.Err = 0
  ·rw [if_pos er, beq_of er, decide_eq_true (show c.Names.length ≤ lim by rw [lim_eq]; omega)]
   simp only [cond_true]
   unfold namedS
   by_cases hf : t.File ≥ 1
   ·rw [decide_eq_true hf, if_neg (show ¬ (t.File < 1 ∨ (c.Names.length : Int) < t.File) by omega)]
    obtain ⟨r, e, hr⟩ := rnamed_loop { c with Out := noOut } rfl t c.Out ⟨0, 0, 0, 0, [], [], ⟨false, ⟨0, 0, 0, 0, [], 0, 0, []⟩, 0, 0⟩, 0, 0, 0⟩ (by show c.Names.length < 1000; omega)
    rw [e, some_bind, hr, wi64_of (show -9223372036854775808 ≤ t.File - 1 by omega) (by omega)]
    simp only [cond_true, List.length_map]
    rw [inR_of (by omega) (by omega), List.getElem?_eq_getElem (show (t.File - 1).toNat < (c.Names.map fun x => if x == c.Out.Ask.Name then [] else x).length by simp; omega)]
    rfl
   ·rw [decide_eq_false hf, if_pos (Or.inl (by omega))]; rfl
  ·rw [if_neg er, beq_ne er]; rfl
 ·have hm := fileAt_mem S.files f1 f6
  obtain ⟨i1, i2⟩ := in_file S.files f1 f6
  have hf : fileAt { c with Out := noOut } c.Out.Ask.File = fileAt c c.Out.Ask.File := rfl
  have hw := with_ok (c := { c with Out := noOut }) S.files f1 f6
  rw [if_neg (show ¬ c.Out.Ask.Kind = 1 by omega), beq_ne (show ¬ c.Out.Ask.Kind = 1 by omega)]
  simp only [cond_false, cond_true, i1, i2, some_bind, rshort_60, hf, rDone_ok _ _ (S.dirty _ hm) (S.body _ hm), hw, radd_49 hf1.1 hf1.2, len_gtz, rReset_eq]
  by_cases q2 : c.Out.Ask.Kind = 2
  ·rw [if_pos q2, beq_of q2]
   simp only [cond_true]
   by_cases er : t.Err = 0
   ·rw [beq_of er]
    by_cases hn : c.Now < addI c.Out.First 49
    ·rw [decide_eq_true hn]
     by_cases hmo : t.Mode = 0
     ·rw [if_neg (by simp [hmo]), show (t.Mode != 0) = false by simp [hmo]]; rfl
     ·rw [if_pos ⟨er, hn, hmo⟩, show (t.Mode != 0) = true by simp [hmo]]; rfl
    ·rw [decide_eq_false hn, if_neg (fun h => hn h.2.1)]; rfl
   ·rw [beq_ne er, if_neg (fun h => er h.1)]; rfl
  rw [if_neg q2, beq_ne q2]
  simp only [cond_false]
  by_cases q3 : c.Out.Ask.Kind = 3
  ·rw [if_pos q3, beq_of q3]
   by_cases er : t.Err = 0
   ·rw [if_pos er, beq_of er]; rfl
   ·rw [if_neg er, beq_ne er]; rfl
  rw [if_neg q3, beq_ne q3]
  simp only [cond_false]
  by_cases q4 : c.Out.Ask.Kind = 4
  ·rw [if_pos q4, beq_of q4]
   simp only [cond_true]
   cases hl : (fileAt c c.Out.Ask.File).Lost with
   | true => simp
   | false =>
    by_cases er : t.Err = 0
    ·rw [show (t.Err != 0) = false by simp [er], decide_eq_true er]; rfl
    ·rw [show (t.Err != 0) = true by simp [er], decide_eq_false er]; simp
  rw [if_neg q4, beq_ne q4]
  simp only [cond_false]
  have q5 : c.Out.Ask.Kind = 5 := by omega
  rw [beq_of q5]
  by_cases er : t.Err = 0
  ·rw [if_pos er, beq_of er, decide_eq_true (show c.Names.length ≤ lim by rw [lim_eq]; omega)]
   rw [wi64_of (show -9223372036854775808 ≤ c.Out.Ask.File - 1 by omega) (by omega), inR_of (by omega) (by omega), List.getElem?_eq_getElem (show (c.Out.Ask.File - 1).toNat < c.Names.length by omega)]
   rfl
  ·rw [if_neg er, beq_ne er]; rfl
theorem rreset_loop (c : TClient) (o2 : TTell) (d : TClient) (h : c.Files.length < 1000) : ∃ r, ref19_Comes_l0 fuel o2 1 c d = some r ∧ r.1 = { c with Files := c.Files.map cache_Reset } := by
 unfold ref19_Comes_l0
 exact iter_inv (step := ref19_Comes_s0 o2) (fun k v => ∃ i : Nat, v.1 = (i : Int) + 1 ∧ i + k = c.Files.length ∧ v.2.1 = { c with Files := mapTo cache_Reset c.Files i }) (fun r => r.1 = { c with Files := c.Files.map cache_Reset }) (fun k v hI => by
  obtain ⟨v1, v2, v3⟩ := v
  obtain ⟨i, hi, hk, he⟩ := hI
  simp only at hi he
  subst hi he
  simp only [ref19_Comes_s0, ref19_Comes_s0t, get_ite, get_opt, get_ret, get_fail, mapTo_len, ref19_with, ref19_with_t]
  by_cases hlt : i < c.Files.length
  ·have ha := List.getElem?_eq_getElem hlt
   rw [decide_eq_true (show (i : Int) + 1 ≤ (c.Files.length : Int) by omega), wi64_of (show -9223372036854775808 ≤ (i : Int) + 1 - 1 by omega) (by omega), show (i : Int) + 1 - 1 = (i : Int) by omega, inR_nat hlt, Int.toNat_natCast, mapTo_at _ _ ha, some_bind, decide_eq_true (show c.Files.length ≤ lim by rw [lim_eq]; omega), rReset_eq, mapTo_set cache_Reset _ ha, wi64_of (by omega) (by omega)]
   exact ⟨_, rfl, k - 1, by omega, i + 1, by show (i : Int) + 1 + 1 = ((i + 1 : Nat) : Int) + 1; omega, by omega, rfl⟩
  ·obtain rfl : i = c.Files.length := by omega
   rw [decide_eq_false (show ¬ (c.Files.length : Int) + 1 ≤ (c.Files.length : Int) by omega)]
   refine ⟨_, rfl, ?_⟩
   show ({ c with Files := mapTo cache_Reset c.Files c.Files.length } : TClient) = _
   rw [mapTo_end]) c.Files.length (1, c, d) fuel ⟨0, rfl, by omega, by rw [mapTo_zero]⟩ (fuel_gt (by omega))
theorem rComes_ok {c : TClient} (S : Shape (lapseS c)) (A : c.Out.Is = true → askShape c.Out.Ask) (F : firstOk c) (b : List UInt8) (hb : b.length ≤ lim) : ref19_Comes fuel c b = some (comesS c b) := by
 have hl : c.Files.length = 6 := by have := S.files; unfold lapseS at this; simpa using this
 have hn : c.Names.length = 6 := S.names
 unfold ref19_Comes ref19_Comes_t comesS comeS hearS
 simp only [get_opt, get_ite, get_ret, get_fail, get_altT, whole_ok hl hn, Bool.not_true, cond_false, lapsed_ok c (by omega), some_bind, ref13_TakeTell_ok b hb]
 have A : (lapseS c).Out.Is = true → askShape (lapseS c).Out.Ask := A
 have F : firstOk (lapseS c) := F
 generalize lapseS c = d at S A F
 cases ht : (takeTell b).2 with
 | false => rw [if_pos (Or.inl rfl)]; rfl
 | true =>
  by_cases hto : (takeTell b).1.To = d.ID
  case neg => rw [if_pos (Or.inr hto), show ((takeTell b).1.To != d.ID) = true by simp [hto]]; rfl
  rw [if_neg (by simp [hto]), show ((takeTell b).1.To != d.ID) = false by simp [hto]]
  simp only [Bool.not_true, cond_false]
  obtain ⟨hm, _⟩ := take_may ht
  generalize (takeTell b).1 = t at hm
  have hk := (mayTell_of hm).1
  by_cases k3 : t.Kind = 3
  ·rw [if_pos k3, beq_of k3, cond_true]
   unfold epochS
   by_cases he : t.Epoch ≤ d.Epoch
   ·rw [if_pos he, decide_eq_true he]; rfl
   rw [if_neg he, decide_eq_false he, cond_false]
   obtain ⟨r, e, hr⟩ := rreset_loop { d with Epoch := t.Epoch } t ⟨0, 0, 0, 0, [], [], ⟨false, ⟨0, 0, 0, 0, [], 0, 0, []⟩, 0, 0⟩, 0, 0, 0⟩ (by show d.Files.length < 1000; rw [S.files]; omega)
   rw [e, some_bind, hr]
   simp only
   cases hi : d.Out.Is <;> rfl
  rw [if_neg k3, beq_ne k3, cond_false]
  by_cases k2 : t.Kind = 2
  ·rw [if_pos k2, beq_of k2, cond_true]
   unfold calledS
   by_cases he : t.Epoch = d.Epoch
   case neg => rw [if_pos (Or.inl he), show (t.Epoch != d.Epoch) = true by simp [he]]; rfl
   rw [show (t.Epoch != d.Epoch) = false by simp [he], cond_false]
   obtain ⟨f1, f6⟩ := recall_file hm k2
   obtain ⟨i1, i2⟩ := in_file S.files f1 f6
   rw [i1, i2]
   simp only [cond_true, some_bind, with_ok S.files f1 f6]
   by_cases hmo : (fileAt d t.File).Mode = 0
   ·rw [if_pos (Or.inr hmo), beq_of hmo]; rfl
   rw [if_neg (by simp [he, hmo]), beq_ne hmo]
   simp only [cond_false]
   have hg := rgives_ok (shape_call S f1 f6) f1 f6
   rw [show setF d t.File { fileAt d t.File with Called := true } = callF d t.File from rfl, hg]
   have : (callF d t.File).Out = d.Out := rfl
   rw [this]
   cases hi : d.Out.Is <;> rfl
  rw [if_neg k2, beq_ne k2, cond_false]
  unfold doneS
  by_cases he : t.Epoch = d.Epoch
  case neg => rw [if_pos (Or.inl he), show (t.Epoch != d.Epoch) = true by simp [he]]; rfl
  rw [show (t.Epoch != d.Epoch) = false by simp [he], cond_false]
  cases hi : d.Out.Is with
  | false => rw [if_pos (Or.inr (Or.inl rfl))]; rfl
  | true =>
   by_cases hs : t.Seq = d.Out.Ask.Seq
   case neg => rw [if_pos (Or.inr (Or.inr hs)), show (t.Seq != d.Out.Ask.Seq) = true by simp [hs]]; rfl
   rw [if_neg (by simp [he, hs]), show (t.Seq != d.Out.Ask.Seq) = false by simp [hs], rtold_ok S hi (A hi) (F hi) t (mayTell_of hm).2.2.2.2.2.1]
   rfl
theorem rRun_ok {c : TClient} (S : Shape (lapseS c)) : ref19_Run fuel c = some (runS c) := by
 have hl : c.Files.length = 6 := by have := S.files; unfold lapseS at this; simpa using this
 have hn : c.Names.length = 6 := S.names
 unfold ref19_Run ref19_Run_t runS
 simp only [get_opt, get_ite, get_ret, get_fail, get_altT, whole_ok hl hn, Bool.not_true, cond_false, lapsed_ok c (by omega), some_bind]
 generalize lapseS c = d at S
 unfold rnS
 have hdue : ref13_Due d.Out d.Now = (d.Out.Is && dueS d) := by
  unfold ref13_Due ref13_Due_t dueS
  simp only [val_ite, val_ret]
  cases d.Out.Is <;> rfl
 rw [hdue]
 have h6 := S.files
 unfold ref19_Run_l0
 cases hi : d.Out.Is with
 | true =>
  rw [if_pos rfl, Bool.true_and]
  cases dueS d with
  | true => simp [againS, hi]
  | false =>
   rw [fuel_eq, iter_succ]
   simp only [ref19_Run_s0, ref19_Run_s0t, get_ite, get_opt, get_ret, get_fail, h6, hi]
   rfl
 | false =>
  rw [if_neg (by simp), Bool.false_and, cond_false]
  obtain ⟨x, e, hx⟩ := iter_inv (step := ref19_Run_s0 d) (fun k v => ∃ i : Nat, v.1 = (i : Int) + 1 ∧ i + k = d.Files.length ∧ d.Files.findIdx? (earlyF d) = ((d.Files.drop i).findIdx? (earlyF d)).map (· + i)) (fun r => match d.Files.findIdx? (earlyF d) with | some i => ∃ y z, r = .inl ((givesS d ((i : Int) + 1)).2.2, (givesS d ((i : Int) + 1)).1, y, z) | none => ∃ y, r = .inr y) (fun k v hI => by
   obtain ⟨v1, v2⟩ := v
   obtain ⟨i, hii, hk, he⟩ := hI
   simp only at hii
   subst hii
   simp only [ref19_Run_s0, ref19_Run_s0t, get_ite, get_opt, get_ret, get_fail, hi, Bool.not_false, cond_true, len_gtz]
   by_cases hlt : i < d.Files.length
   ·have ha := List.getElem?_eq_getElem hlt
    have hg := rgives_ok S (show 1 ≤ (i : Int) + 1 by omega) (by omega)
    rw [decide_eq_true (show (i : Int) + 1 ≤ (d.Files.length : Int) by omega), wi64_of (show -9223372036854775808 ≤ (i : Int) + 1 - 1 by omega) (by omega), show (i : Int) + 1 - 1 = (i : Int) by omega, inR_nat hlt, Int.toNat_natCast, ha, some_bind, hg, some_bind, wi64_of (show -9223372036854775808 ≤ (i : Int) + 1 + 1 by omega) (by omega)]
    rw [List.drop_eq_getElem_cons hlt, List.findIdx?_cons] at he
    generalize d.Files[i] = f at he
    have hq : earlyF d f = ((f.Mode != 0) && (f.Called || (!decide (f.Dirty = []) && decide (d.Now ≥ wi64 (f.Until - 15))))) := rfl
    have go : ∀ (o : (Int × TClient) ⊕ ((List TAsk × TClient × TCache × TClient) ⊕ TClient)), earlyF d f = false → (∃ w, o = .inl ((i : Int) + 1 + 1, w)) → ∃ o', some o = some o' ∧ Sum.elim (fun v' => ∃ k', k' < k ∧ ∃ i : Nat, v'.1 = (i : Int) + 1 ∧ i + k' = d.Files.length ∧ d.Files.findIdx? (earlyF d) = ((d.Files.drop i).findIdx? (earlyF d)).map (· + i)) (fun r => match d.Files.findIdx? (earlyF d) with | some i => ∃ y z, r = .inl ((givesS d ((i : Int) + 1)).2.2, (givesS d ((i : Int) + 1)).1, y, z) | none => ∃ y, r = .inr y) o' := fun o hf ho => by
     obtain ⟨w, rfl⟩ := ho
     rw [hf] at he
     refine ⟨_, rfl, k - 1, by omega, i + 1, by show (i : Int) + 1 + 1 = ((i + 1 : Nat) : Int) + 1; omega, by omega, ?_⟩
     rw [he]
     simp only [Bool.false_eq_true, if_false, Option.map_map]
     congr 1
     funext j
     simp; omega
    have stop : ∀ (o : (Int × TClient) ⊕ ((List TAsk × TClient × TCache × TClient) ⊕ TClient)), earlyF d f = true → (∃ y z, o = .inr (.inl ((givesS d ((i : Int) + 1)).2.2, (givesS d ((i : Int) + 1)).1, y, z))) → ∃ o', some o = some o' ∧ Sum.elim (fun v' => ∃ k', k' < k ∧ ∃ i : Nat, v'.1 = (i : Int) + 1 ∧ i + k' = d.Files.length ∧ d.Files.findIdx? (earlyF d) = ((d.Files.drop i).findIdx? (earlyF d)).map (· + i)) (fun r => match d.Files.findIdx? (earlyF d) with | some i => ∃ y z, r = .inl ((givesS d ((i : Int) + 1)).2.2, (givesS d ((i : Int) + 1)).1, y, z) | none => ∃ y, r = .inr y) o' := fun o hf ho => by
     obtain ⟨y, z, rfl⟩ := ho
     rw [hf] at he
     refine ⟨_, rfl, ?_⟩
     have he' : d.Files.findIdx? (earlyF d) = some i := by rw [he]; simp
     rw [he']
     exact ⟨y, z, rfl⟩
    cases h1 : f.Mode != 0
    ·exact go _ (by rw [hq, h1]; rfl) ⟨_, rfl⟩
    cases h2 : f.Called
    ·cases h3 : decide (f.Dirty = [])
     ·cases h4 : decide (d.Now ≥ wi64 (f.Until - 15))
      ·exact go _ (by rw [hq, h1, h2, h3, h4]; rfl) ⟨_, rfl⟩
      ·exact stop _ (by rw [hq, h1, h2, h3, h4]; rfl) ⟨_, _, rfl⟩
     ·exact go _ (by rw [hq, h1, h2, h3]; rfl) ⟨_, rfl⟩
    ·exact stop _ (by rw [hq, h1, h2]; rfl) ⟨_, _, rfl⟩
   ·obtain rfl : i = d.Files.length := by omega
    rw [decide_eq_false (show ¬ (d.Files.length : Int) + 1 ≤ (d.Files.length : Int) by omega)]
    refine ⟨_, rfl, ?_⟩
    rw [List.drop_length] at he
    rw [he]; exact ⟨_, rfl⟩) d.Files.length (1, _) fuel ⟨0, rfl, by omega, by simp⟩ (fuel_gt (by omega))
  rw [e, some_bind]
  cases hf : d.Files.findIdx? (earlyF d) with
  | none => rw [hf] at hx; obtain ⟨y, hx⟩ := hx; rw [hx]; rfl
  | some i => rw [hf] at hx; obtain ⟨y, z, hx⟩ := hx; rw [hx]; rfl
set_option maxRecDepth 100000
open Go
theorem law20_begun_ok : law20_begun fuel = some true := by rw [fuel_eq]; kernel_rfl
theorem tmod_lo (y : UInt8) (m : Int) (h0 : 0 < m) (h1 : m ≤ 256) : 0 ≤ i8 (b8 ((i8 y).tmod m)) ∧ i8 (b8 ((i8 y).tmod m)) < m := by
 have h : 0 ≤ i8 y := Int.natCast_nonneg _
 have e := Int.tmod_eq_emod_of_nonneg (b := m) h
 have a := Int.emod_nonneg (i8 y) (show m ≠ 0 by omega)
 have b := Int.emod_lt_of_pos (i8 y) h0
 rw [e, i8_b8 a (by omega)]
 exact ⟨a, b⟩
theorem okt_pick {A B : Type} {Q : B → Prop} {L : List A} {g : A → D.Tree B} {e : D.Tree B} {m : Int} {n : Nat} {y : UInt8} (hn : L.length = n) (hm : m = n) (h1 : 0 < n ∧ n ≤ 256) (h : ∀ x ∈ L, Okt (g x) Q) :
  Okt (.ite (inR (i8 (b8 ((i8 y).tmod m))) n) (.opt (L[(i8 (b8 ((i8 y).tmod m))).toNat]?) g) e) Q := by
 obtain ⟨a, b⟩ := tmod_lo y m (by omega) (by omega)
 have hl : (i8 (b8 ((i8 y).tmod m))).toNat < L.length := by omega
 refine okt_ite (fun _ => ?_) (fun hf => ?_)
 ·exact okt_opt (List.getElem?_eq_getElem hl) (h _ (List.getElem_mem hl))
 ·rw [inR_of a (by omega)] at hf; cases hf
structure DeedOk (c : TClient) (r : TStep × List UInt8 × Int) : Prop where
 bytes : r.2.1.length ≤ 100
 time : 0 ≤ r.2.2 ∧ r.2.2 ≤ 20
 text : r.1.Text.length ≤ 1
 told : r.2.1 = [] ∨ ∃ t, r.2.1 = putTell t ∧ t.Epoch ≤ c.Epoch + 2
theorem deed_ok (c : TClient) (d : List UInt8) (h : d.length = 4) (he : 0 ≤ c.Epoch ∧ c.Epoch ≤ 1073741824) : ∃ r, law20_deed fuel c d = some r ∧ DeedOk c r := by
 match d, h with
 | [d0, d1, d2, d3], _ =>
 unfold law20_deed law20_deed_t
 refine okt_opt (x := d1) rfl ?_
 refine okt_opt (x := d0) rfl ?_
 have quick : ∀ (y_4 y_1 y_6 y_7 : UInt8) (Q : TStep × List UInt8 × Int → Prop) (e : D.Tree (TStep × List UInt8 × Int)), (∀ r, DeedOk c r → Q r) → Okt (
  D.Tree.ite (inR (i8 (b8 ((i8 y_4).tmod 7))) 7) (.opt ([4, 5, 5, 6, 7, 8, 3][(i8 (b8 ((i8 y_4).tmod 7))).toNat]?) fun y_5 =>
  .opt ([d0, d1, d2, d3][3]?) fun y_6 =>
  .ite (y_5 == 3) (.opt ([d0, d1, d2, d3][3]?) fun y_7 =>
  .ite (inR (i8 (b8 ((i8 y_7).tmod 3))) 3) (.opt ([[97], [98], []][(i8 (b8 ((i8 y_7).tmod 3))).toNat]?) fun y_8 =>
   .ret ((TStep.mk y_5 c.ID 0 (wi64 (1 + (wi64 (i8 (b8 ((i8 y_1).tmod 2)))))) (wi64 (i8 (b8 ((i8 y_6).tmod 9)))) 0 0 y_8 []), [], 0)) .fail)
  (.ret ((TStep.mk y_5 c.ID 0 (wi64 (1 + (wi64 (i8 (b8 ((i8 y_1).tmod 2)))))) (wi64 (i8 (b8 ((i8 y_6).tmod 9)))) 0 0 [116] []), [], 0))) .fail) Q := fun y_4 y_1 y_6 y_7 Q e hQ => by
  refine okt_pick (n := 7) rfl rfl (by decide) fun x _ => ?_
  refine okt_opt (x := d3) rfl ?_
  refine okt_ite (fun _ => ?_) (fun _ => okt_ret (hQ _ ⟨by simp, by simp, by simp, Or.inl rfl⟩))
  refine okt_opt (x := d3) rfl ?_
  refine okt_pick (n := 3) rfl rfl (by decide) fun z hz => ?_
  refine okt_ret (hQ _ ⟨by simp, by simp, ?_, Or.inl rfl⟩)
  simp only [List.mem_cons, List.not_mem_nil, or_false] at hz
  rcases hz with hz | hz | hz <;> rw [hz] <;> simp
 refine okt_ite (fun _ => ?_) (fun _ => ?_)
 ·refine okt_opt (x := d1) rfl ?_
  obtain ⟨a, b⟩ := tmod_lo d1 20 (by decide) (by decide)
  refine okt_ret ⟨by simp, ?_, by simp, Or.inl rfl⟩
  show 0 ≤ wi64 (1 + wi64 (i8 (b8 ((i8 d1).tmod 20)))) ∧ wi64 (1 + wi64 (i8 (b8 ((i8 d1).tmod 20)))) ≤ 20
  rw [wi64_of (show -9223372036854775808 ≤ i8 (b8 ((i8 d1).tmod 20)) by omega) (by omega), wi64_of (by omega) (by omega)]
  omega
 refine okt_ite (fun _ => okt_ret ⟨by simp, by simp, by simp, Or.inl rfl⟩) (fun _ => ?_)
 refine okt_ite (fun _ => okt_opt (x := d2) rfl (quick d2 d1 d1 d1 _ .fail fun _ h => h)) (fun _ => ?_)
 refine okt_ite (fun _ => okt_opt (x := d2) rfl (quick d2 d1 d1 d1 _ .fail fun _ h => h)) (fun _ => ?_)
 refine okt_ite (fun _ => okt_opt (x := d2) rfl (quick d2 d1 d1 d1 _ .fail fun _ h => h)) (fun _ => ?_)
 refine okt_ite (fun _ => okt_opt (x := d2) rfl (quick d2 d1 d1 d1 _ .fail fun _ h => h)) (fun _ => ?_)
 refine okt_ite (fun _ => okt_opt (x := d2) rfl (quick d2 d1 d1 d1 _ .fail fun _ h => h)) (fun _ => ?_)
 have put : ∀ t : TTell, t.Epoch ≤ c.Epoch + 2 → Okt (D.Tree.opt (ref13_PutTell fuel t) fun r_31 => .ret ((TStep.mk 0 0 0 0 0 0 0 [] []), r_31, (0 : Int))) (DeedOk c) := fun t h =>
  okt_opt (ref13_PutTell_ok t) (okt_ret ⟨by have := putTell_len t; show (putTell t).length ≤ 100; omega, by simp, by simp, Or.inr ⟨t, rfl, h⟩⟩)
 refine okt_ite (fun _ => ?_) (fun _ => ?_)
 ·refine okt_opt (x := d2) rfl ?_
  refine okt_ite (fun _ => okt_opt (x := d3) rfl (put _ ?_)) (fun _ => put _ (by show c.Epoch ≤ c.Epoch + 2; omega))
  obtain ⟨a, b⟩ := tmod_lo d3 3 (by decide) (by decide)
  show wi64 (c.Epoch + wi64 (i8 (b8 ((i8 d3).tmod 3)))) ≤ c.Epoch + 2
  rw [wi64_of (show -9223372036854775808 ≤ i8 (b8 ((i8 d3).tmod 3)) by omega) (by omega), wi64_of (by omega) (by omega)]
  omega
 ·refine okt_opt (x := d3) rfl (okt_opt (x := d2) rfl ?_)
  refine okt_pick (n := 6) rfl rfl (by decide) fun x _ => ?_
  refine okt_opt (x := d2) rfl ?_
  exact okt_ite (fun _ => put _ (by show c.Epoch ≤ c.Epoch + 2; omega)) (fun _ => put _ (by show c.Epoch ≤ c.Epoch + 2; omega))
theorem tells_epoch {c : TClient} (h : 0 ≤ c.Epoch) {b : List UInt8} (hb : b = [] ∨ ∃ t, b = putTell t ∧ t.Epoch ≤ c.Epoch + 2) : (comesS c b).1.Epoch ≤ c.Epoch + 2 := by
 unfold comesS comeS
 split
 ·show c.Epoch ≤ _; omega
 rename_i hn
 have ht : (takeTell b).2 = true := by
  cases hx : (takeTell b).2 with
  | true => rfl
  | false => exact absurd (Or.inl hx) hn
 have key : (takeTell b).1.Epoch ≤ c.Epoch + 2 := by
  obtain ⟨hm, hz⟩ := take_may ht
  rcases hb with hb | ⟨t, hb, he⟩
  ·have := putTell_yes hm
   rw [← hz, hb] at this
   have hl := congrArg List.length this
   simp only [List.length_append, be_len, List.length_nil] at hl
   omega
  ·cases hmt : msg_MayTell t with
   | true =>
    have := takeTell_put hmt
    rw [← hb] at this
    rw [this]; exact he
   | false =>
    have h1 := putTell_no hmt
    have := putTell_yes hm
    rw [← hz, hb, h1] at this
    have hl := congrArg List.length this
    simp only [List.length_append, be_len, List.length_nil] at hl
    omega
 generalize (takeTell b).1 = t at key
 unfold hearS
 split
 ·unfold epochS
  split
  ·show c.Epoch ≤ _; omega
  split <;> exact key
 split
 ·unfold calledS
  split
  ·show c.Epoch ≤ _; omega
  split <;> (show c.Epoch ≤ _; omega)
 ·unfold doneS
  split
  ·show c.Epoch ≤ _; omega
  ·obtain ⟨_, _, _, _, e⟩ := tell_keeps { lapseS c with Out := noOut } (lapseS c).Out t
   rw [e]; show c.Epoch ≤ _; omega
theorem step_epoch (c : TClient) (s : TStep) : (doS c s).1.Epoch = c.Epoch := by
 have ask : ∀ (d : TClient) (a : TAsk), (askS d a).1.Epoch = d.Epoch := fun _ _ => rfl
 unfold doS stepS
 split
 ·rfl
 split
 ·unfold opensS
  repeat' split
  all_goals rfl
 split
 ·rfl
 split
 ·rfl
 split
 ·rfl
 split
 ·unfold readsS; repeat' split
  all_goals rfl
 split
 ·unfold writesS; repeat' split
  all_goals rfl
 split
 ·unfold syncsS; repeat' split
  all_goals rfl
 split
 ·unfold dropsS; repeat' split
  all_goals rfl
 ·unfold endsS; repeat' split
  all_goals rfl
theorem run_epoch (c : TClient) : (runS c).1.Epoch = c.Epoch := by
 unfold runS rnS
 repeat' split
 all_goals rfl
structure RunOk (i : Int) (c : TClient) : Prop where
 ok : CliOk i c
 now : c.Now ≤ 20 * i
 epoch : c.Epoch ≤ 2 * i
 one : c.ID = 1
theorem run_round (l : List (List UInt8)) (hl : l.length ≤ 80) (h4 : ∀ x ∈ l, x.length = 4) (i : Nat) (c : TClient) (hi : i ≤ l.length) (H : RunOk (i : Int) c) :
  Okt (.ite (decide ((i : Int) < (l.length : Int))) (.ite (inR (i : Int) l.length) (.opt (l[(i : Int).toNat]?) fun y_1 =>
  .opt (law20_deed fuel c y_1) fun r_2 =>
  .ite (decide (r_2.2.2 > 0)) (.ret (.inl ((wi64 ((i : Int) + 1)), { c with Now := (wi64 (c.Now + r_2.2.2)) })))
  (.ite (decide ((r_2.2.1.length : Int) > 0)) (.opt (ref19_Comes fuel c r_2.2.1) fun r_3 =>
  .ret (.inl ((wi64 ((i : Int) + 1)), r_3.1)))
  (.ite (r_2.1.Kind == 2) (.opt (ref19_Run fuel c) fun r_4 =>
  .ret (.inl ((wi64 ((i : Int) + 1)), r_4.1)))
  (.opt (ref19_Do fuel c r_2.1) fun r_5 =>
  .ret (.inl ((wi64 ((i : Int) + 1)), r_5.1)))))) .fail)
 (.ret (.inr c))) (Sum.elim (fun v : Int × TClient => i < l.length ∧ v.1 = ((i + 1 : Nat) : Int) ∧ RunOk ((i + 1 : Nat) : Int) v.2) (fun x : TClient => RunOk (l.length : Int) x)) := by
 obtain ⟨h, hnow, hep, hone⟩ := H
 have hn : (i : Int) < 1073741824 := by omega
 by_cases hlt : i < l.length
 case neg =>
  obtain rfl : i = l.length := by omega
  exact okt_f (ge_dec _) (okt_ret ⟨h, hnow, hep, hone⟩)
 refine okt_t (lt_dec hlt) (okt_t (inR_nat hlt) ?_)
 refine okt_opt (x := l[i]) (by rw [Int.toNat_natCast]; exact List.getElem?_eq_getElem hlt) ?_
 refine okt_optE (deed_ok c _ (h4 _ (List.getElem_mem hlt)) h.epoch) fun r hr => ?_
 obtain ⟨s, b, t⟩ := r
 obtain ⟨hb, ht, htx, htl⟩ := hr
 simp only at hb ht htx htl
 have hno := h.now
 have e2 : wi64 (c.Now + t) = c.Now + t := wi64_of (by omega) (by omega)
 have e3 := wi64_succ (i := i) (by omega)
 simp only [e2, e3]
 have up : ∀ (c' : TClient) (p : List TAsk), Grow (i : Int) c c' p → c'.Epoch ≤ c.Epoch + 2 → RunOk ((i + 1 : Nat) : Int) c' := fun c' p g he => by
  obtain ⟨g1, g2, g3, g4⟩ := g
  refine ⟨g1, ?_, ?_, g3.trans hone⟩
  ·rw [g2]; omega
  ·omega
 have hle : b.length ≤ lim := by rw [lim_eq]; omega
 have hF : firstOk c := fun x => by have := (h.first x).1; omega
 refine okt_ite (fun hp => okt_ret ⟨hlt, rfl, ?_⟩) (fun hp => ?_)
 ·have hp := of_decide_eq_true hp
  refine ⟨(cli_time h (t := c.Now + t) (by omega) (by omega)).more (by omega), ?_, ?_, hone⟩
  ·show c.Now + t ≤ _; omega
  ·show c.Epoch ≤ _; omega
 refine okt_ite (fun _ => okt_opt (rComes_ok (cli_lapse h).shape h.shaped hF b hle) (okt_ret ⟨hlt, rfl, up _ _ (grow_comes h hn b) (tells_epoch h.epoch.1 htl)⟩)) (fun _ => ?_)
 refine okt_ite (fun _ => okt_opt (rRun_ok (cli_lapse h).shape) (okt_ret ⟨hlt, rfl, up _ _ (grow_run h hn).1 (by rw [run_epoch]; omega)⟩)) (fun _ => ?_)
 exact okt_opt (rDo_ok (cli_lapse h).shape s (by omega)) (okt_ret ⟨hlt, rfl, up _ _ (grow_do h hn s).1 (by rw [step_epoch]; omega)⟩)
theorem deeds_ok (l : List (List UInt8)) (hl : l.length ≤ 80) (h4 : ∀ x ∈ l, x.length = 4) (step : Int × TClient → Option ((Int × TClient) ⊕ TClient)) (hs : ∀ (i : Nat) c, step ((i : Int), c) = D.Tree.get (.ite (decide ((i : Int) < (l.length : Int))) (.ite (inR (i : Int) l.length) (.opt (l[(i : Int).toNat]?) fun y_1 =>
  .opt (law20_deed fuel c y_1) fun r_2 =>
  .ite (decide (r_2.2.2 > 0)) (.ret (.inl ((wi64 ((i : Int) + 1)), { c with Now := (wi64 (c.Now + r_2.2.2)) })))
  (.ite (decide ((r_2.2.1.length : Int) > 0)) (.opt (ref19_Comes fuel c r_2.2.1) fun r_3 =>
  .ret (.inl ((wi64 ((i : Int) + 1)), r_3.1)))
  (.ite (r_2.1.Kind == 2) (.opt (ref19_Run fuel c) fun r_4 =>
  .ret (.inl ((wi64 ((i : Int) + 1)), r_4.1)))
  (.opt (ref19_Do fuel c r_2.1) fun r_5 =>
  .ret (.inl ((wi64 ((i : Int) + 1)), r_5.1)))))) .fail)
 (.ret (.inr c)))) : ∃ c, iter step fuel (0, ref19_New 1) = some c ∧ RunOk (l.length : Int) c := by
 refine iter_inv (step := step) (fun k v => ∃ i : Nat, v.1 = (i : Int) ∧ i + k = l.length ∧ RunOk (i : Int) v.2) (fun c => RunOk (l.length : Int) c) (fun k v hI => ?_) l.length (0, ref19_New 1) fuel ⟨0, rfl, by omega, new_ok (i := 1) (by decide) (by decide), Int.le_refl _, Int.le_refl _, rfl⟩ (fuel_gt (by omega))
 obtain ⟨v1, v2⟩ := v
 obtain ⟨i, hi, hk, hc⟩ := hI
 simp only at hi hc
 subst hi
 obtain ⟨r, e, hr⟩ := run_round l hl h4 i v2 (by omega) hc
 refine ⟨r, (hs i v2).trans e, ?_⟩
 cases r with
 | inl w => obtain ⟨h1, h2, h3⟩ := hr; exact ⟨k - 1, by omega, i + 1, h2, by omega, h3⟩
 | inr x => exact hr
open Go
theorem epoch_may {q e : Int} (h1 : 1 ≤ q ∧ q ≤ 3) (h2 : 0 ≤ e ∧ e ≤ 1073741824) : msg_MayTell ⟨3, q, e, 0, 0, 0, 0, 0, []⟩ = true := by
 unfold msg_MayTell msg_MayTell_t
 simp only [val_ite, val_ret, msg_from_eq]
 rw [show rng 1 3 (3 : Int) = true from rfl, rng_iff.2 h1, rng_iff.2 h2]
 exact (tell_eqb ⟨3, q, e, 0, 0, 0, 0, 0, []⟩ ⟨3, q, e, 0, 0, 0, 0, 0, []⟩).2 rfl
theorem SameCache_refl (a : TCache) (h : a.Dirty.length < 4294967296) : ref19_SameCache fuel a a = some true := by
 unfold ref19_SameCache ref19_SameCache_t
 simp only [get_opt, get_ite, get_ret, beq_self_eq_true, cond_true, ref7_SameWrites_ok _ _ h, some_bind]
 rw [(sameW_iff a.Dirty a.Dirty).2 rfl]; rfl
theorem SameTexts_refl (a : List (List UInt8)) (h : a.length < 4294967296) : ref5_SameTexts fuel a a = some true := by
 unfold ref5_SameTexts ref5_SameTexts_t ref5_SameTexts_l0
 simp only [get_opt, get_ite, get_ret, get_altT]
 obtain ⟨x, e, hx⟩ := iter_inv (step := ref5_SameTexts_s0 a a) (fun k v => ∃ i : Nat, v = (i : Int) ∧ i + k = a.length) (fun r => r = .inr ()) (fun k v hI => by
  obtain ⟨i, hi, hk⟩ := hI
  subst hi
  simp only [ref5_SameTexts_s0, ref5_SameTexts_s0t, get_ite, get_opt, get_ret, get_fail]
  by_cases hlt : i < a.length
  ·rw [lt_dec hlt, inR_nat hlt, Int.toNat_natCast, List.getElem?_eq_getElem hlt, some_bind, wi64_succ (by omega)]
   simp only [cond_true, some_bind, beq_self_eq_true, Bool.not_true, cond_false]
   exact ⟨_, rfl, k - 1, by omega, i + 1, rfl, by omega⟩
  ·obtain rfl : i = a.length := by omega
   rw [ge_dec]
   exact ⟨_, rfl, rfl⟩) a.length 0 fuel ⟨0, rfl, by omega⟩ (fuel_gt h)
 rw [e, hx]
 simp [alt_inr]
theorem SameClient_refl {c : TClient} (S : Shape c) : ref19_SameClient fuel c c = some true := by
 unfold ref19_SameClient ref19_SameClient_t ref19_SameClient_l0
 have h6 := S.files
 have hn := S.names
 simp only [get_opt, get_ite, get_ret, get_altT, bne_self_eq_false, cond_false, beq_self_eq_true, cond_true, SameTexts_refl c.Names (by omega), some_bind, Bool.not_true, ref13_SameAsk_ok c.Out.Ask c.Out.Ask (by have := S.asked; omega), sameAsk_refl]
 obtain ⟨x, e, hx⟩ := iter_inv (step := ref19_SameClient_s0 fuel c c) (fun k v => ∃ i : Nat, v = (i : Int) ∧ i + k = c.Files.length) (fun r => r = .inr ()) (fun k v hI => by
  obtain ⟨i, hi, hk⟩ := hI
  subst hi
  simp only [ref19_SameClient_s0, ref19_SameClient_s0t, get_ite, get_opt, get_ret, get_fail]
  by_cases hlt : i < c.Files.length
  ·rw [lt_dec hlt, inR_nat hlt, Int.toNat_natCast, List.getElem?_eq_getElem hlt, some_bind, wi64_succ (by omega)]
   simp only [cond_true, some_bind, SameCache_refl c.Files[i] (by have := S.dirty _ (List.getElem_mem hlt); omega), Bool.not_true, cond_false]
   exact ⟨_, rfl, k - 1, by omega, i + 1, rfl, by omega⟩
  ·obtain rfl : i = c.Files.length := by omega
   rw [ge_dec]
   exact ⟨_, rfl, rfl⟩) c.Files.length 0 fuel ⟨0, rfl, by omega⟩ (fuel_gt (by omega))
 rw [e, some_bind, hx]
 rfl
theorem reset_free (f : TCache) : (cache_Reset f).Mode = 0 ∧ (cache_Reset f).Dirty = [] ∧ (cache_Reset f).Until = 0 ∧ (cache_Reset f).Lost = (f.Lost || !decide (f.Dirty = [])) := by
 unfold cache_Reset cache_Reset_t
 simp only [val_ite, val_ret, len_gtz]
 cases f.Lost <;> exact ⟨rfl, rfl, rfl, rfl⟩
theorem lapse_free {f : TCache} (h : f.Mode = 0) (now : Int) : cache_Lapse f now = f := by
 unfold cache_Lapse cache_Lapse_t
 rw [val_ite, beq_of h]; rfl
theorem lapse_all {c : TClient} (h : ∀ f ∈ c.Files, f.Mode = 0) : lapseS c = c := by
 unfold lapseS
 have : (c.Files.map fun f => cache_Lapse f c.Now) = c.Files := by
  rw [List.map_congr_left (g := id) fun f hf => lapse_free (h f hf) _, List.map_id]
 rw [this]
theorem reset_lapse {now : Int} {f : TCache} (h : FileOk now f) : (cache_Reset (cache_Lapse f now)).Lost = (f.Lost || !decide (f.Dirty = [])) := by
 rw [(reset_free _).2.2.2]
 have e : cache_Lapse f now = f ∨ cache_Lapse f now = cache_Reset f := by
  unfold cache_Lapse cache_Lapse_t
  simp only [val_ite, val_ret]
  cases f.Mode == 0 <;> cases cache_Valid f now != 0 <;> simp
 rcases e with e | e <;> rw [e]
 rw [(reset_free f).2.2.2]
 simp [(reset_free f).2.1]
theorem hear_epoch {c : TClient} {e : Int} (hid : 1 ≤ c.ID ∧ c.ID ≤ 3) (he : 0 ≤ e ∧ e ≤ 1073741824) : comesS c (putTell ⟨3, c.ID, e, 0, 0, 0, 0, 0, []⟩) = epochS (lapseS c) ⟨3, c.ID, e, 0, 0, 0, 0, 0, []⟩ := by
 have ht := takeTell_put (epoch_may hid he)
 unfold comesS comeS
 rw [ht]
 rw [if_neg (by show ¬ (true = false ∨ c.ID ≠ c.ID); simp)]
 rfl
theorem law20_ClientEpoch_ok (l : List (List UInt8)) (n : UInt8) (hl : l.length ≤ 1048576 ∧ ∀ x ∈ l, x.length = 4) : law20_ClientEpoch fuel l n = some true := by
 unfold law20_ClientEpoch law20_ClientEpoch_t
 simp only [get_opt, get_ite, get_ret, get_altT, law20_begun_ok, some_bind, Bool.not_true, cond_false]
 by_cases hb : (l.length : Int) > 80
 ·rw [decide_eq_true hb]; rfl
 rw [decide_eq_false hb, cond_false]
 obtain ⟨c, e, H⟩ := deeds_ok l (by omega) hl.2 (law20_ClientEpoch_s0 fuel l n) (fun i c => rfl)
 unfold law20_ClientEpoch_l0
 rw [e, some_bind]
 obtain ⟨h, hnow, hep, hone⟩ := H
 obtain ⟨m1, m2⟩ := tmod_lo n 5 (by decide) (by decide)
 have hepo := h.epoch
 have hn : (l.length : Int) < 1073741824 := by omega
 rw [wi64_of (show -9223372036854775808 ≤ i8 (b8 ((i8 n).tmod 5)) by omega) (by omega), wi64_of (show -9223372036854775808 ≤ c.Epoch + 1 by omega) (by omega), wi64_of (show -9223372036854775808 ≤ c.Epoch + 1 + i8 (b8 ((i8 n).tmod 5)) by omega) (by omega)]
 generalize hE : c.Epoch + 1 + i8 (b8 ((i8 n).tmod 5)) = E
 have hE1 : c.Epoch < E ∧ E ≤ 1000 := by omega
 rw [wi64_of (show -9223372036854775808 ≤ E - 1 by omega) (by omega)]
 rw [ref13_PutTell_ok, ref13_PutTell_ok, some_bind]
 have eA : comesS c (putTell ⟨3, 1, E, 0, 0, 0, 0, 0, []⟩) = epochS (lapseS c) ⟨3, 1, E, 0, 0, 0, 0, 0, []⟩ := by
  have := hear_epoch (c := c) (e := E) (by omega) (by omega)
  rw [hone] at this; exact this
 have c1 := Comes_ok (cli_lapse h).shape h.shaped (putTell ⟨3, 1, E, 0, 0, 0, 0, 0, []⟩) (by have := putTell_len ⟨3, 1, E, 0, 0, 0, 0, 0, []⟩; rw [lim_eq]; omega)
 have g := grow_comes h hn (putTell ⟨3, 1, E, 0, 0, 0, 0, 0, []⟩)
 rw [eA] at c1 g
 rw [c1, some_bind, some_bind]
 have key : ∃ o p, epochS (lapseS c) ⟨3, 1, E, 0, 0, 0, 0, 0, []⟩ = ({ lapseS c with Epoch := E, Files := (lapseS c).Files.map cache_Reset, Out := o }, p) ∧ o.First = c.Out.First ∧ (c.Out.Is = true → p = [{ c.Out.Ask with Epoch := E }]) ∧ (c.Out.Is = false → p = []) := by
  unfold epochS
  rw [if_neg (show ¬ E ≤ (lapseS c).Epoch from show ¬ E ≤ c.Epoch by omega)]
  cases hi : c.Out.Is with
  | true =>
   rw [if_pos (show (lapseS c).Out.Is = true from hi)]
   refine ⟨_, _, rfl, rfl, ?_, ?_⟩ <;> intro x <;> first | rfl | cases x
  | false =>
   rw [if_neg (by rw [show (lapseS c).Out.Is = c.Out.Is from rfl, hi]; decide)]
   refine ⟨_, _, rfl, rfl, ?_, ?_⟩ <;> intro x <;> first | rfl | cases x
 obtain ⟨o, p, ek, k1, k2, k3⟩ := key
 rw [ek] at g ⊢
 obtain ⟨gok, gnow, gid, _⟩ := g
 simp only at gok gnow gid ⊢
 generalize hx : ({ lapseS c with Epoch := E, Files := (lapseS c).Files.map cache_Reset, Out := o } : TClient) = x at gok gnow gid ⊢
 have xe : x.Epoch = E := by rw [← hx]
 have xo : x.Out = o := by rw [← hx]
 have xid : x.ID = 1 := by rw [← hx]; exact hone
 have hl6 : (lapseS c).Files.length = 6 := (cli_lapse h).files
 have xf : x.Files = (lapseS c).Files.map cache_Reset := by rw [← hx]
 have xfree : ∀ f ∈ x.Files, f.Mode = 0 := fun f hf => by
  rw [xf] at hf
  simp only [List.mem_map] at hf
  obtain ⟨f', _, ef⟩ := hf
  rw [← ef]; exact (reset_free f').1
 have lx := lapse_all xfree
 have c2 := Comes_ok (cli_lapse gok).shape gok.shaped (putTell ⟨3, 1, E - 1, 0, 0, 0, 0, 0, []⟩) (by have := putTell_len ⟨3, 1, E - 1, 0, 0, 0, 0, 0, []⟩; rw [lim_eq]; omega)
 have eB : comesS x (putTell ⟨3, 1, E - 1, 0, 0, 0, 0, 0, []⟩) = (x, []) := by
  have := hear_epoch (c := x) (e := E - 1) (by omega) (by omega)
  rw [xid] at this
  rw [this, lx]
  unfold epochS
  rw [if_pos (by show E - 1 ≤ x.Epoch; omega)]
 rw [eB] at c2
 rw [c2, some_bind]
 have hm6 : (List.map cache_Reset (lapseS c).Files).length = 6 := by simp [hl6]
 have hlenp : ((p.length : Int) == 1) = c.Out.Is := by
  cases hi : c.Out.Is with
  | true => rw [k2 hi]; rfl
  | false => rw [k3 hi]; rfl
 simp only [bne_self_eq_false, cond_false, hm6, hlenp, SameClient_refl gok.shape, some_bind, List.length_nil, beq_self_eq_true, Bool.not_true, show (((6 : Nat) : Int) != 6) = false from rfl, show (((0 : Nat) : Int) != 0) = false from rfl]
 unfold law20_ClientEpoch_l1
 obtain ⟨w, ew, hw⟩ := iter_inv (step := law20_ClientEpoch_s1 E p c x x) (fun k v => ∃ i : Nat, v = (i : Int) ∧ i + k = 6) (fun r => r = .inr ()) (fun k v hI => by
  obtain ⟨i, hi, hk⟩ := hI
  subst hi
  simp only [law20_ClientEpoch_s1, law20_ClientEpoch_s1t, get_ite, get_opt, get_ret, get_fail]
  by_cases hlt : i < 6
  ·have hc6 := h.files
   have ha : c.Files[i]? = some c.Files[i] := List.getElem?_eq_getElem (by omega)
   have hxa : x.Files[i]? = some (cache_Reset (cache_Lapse c.Files[i] c.Now)) := by
    rw [xf]; unfold lapseS; simp only [List.getElem?_map, ha, Option.map_some]
   have hr := reset_free (cache_Lapse c.Files[i] c.Now)
   have hrl := reset_lapse (h.file _ (List.getElem_mem (show i < c.Files.length by omega)))
   have hval : ref19_Valid (cache_Reset (cache_Lapse c.Files[i] c.Now)) 0 = 0 := by
    rw [rValid_eq]; unfold cache_Valid cache_Valid_t; simp only [val_ite, val_ret, hr.2.2.1]; rfl
   rw [decide_eq_true (show (i : Int) < 6 by omega), inR_of (show 0 ≤ (i : Int) by omega) (by rw [gok.files]; omega), inR_of (show 0 ≤ (i : Int) by omega) (by rw [hc6]; omega), Int.toNat_natCast, hxa, ha, wi64_succ (by omega)]
   simp only [cond_true, some_bind, hval, bne_self_eq_false, cond_false, hr.2.1, List.length_nil, show (((0 : Nat) : Int) != 0) = false from rfl, hrl, len_gtz]
   cases c.Files[i].Lost <;> simp only [cond_true, cond_false, Bool.true_or, Bool.false_or, beq_self_eq_true, Bool.not_true] <;> exact ⟨_, rfl, k - 1, by omega, i + 1, rfl, by omega⟩
  ·obtain rfl : i = 6 := by omega
   exact ⟨_, rfl, rfl⟩) 6 0 fuel ⟨0, rfl, by omega⟩ (fuel_gt (by omega))
 rw [ew, some_bind, hw]
 simp only [alt_inr]
 cases hi : c.Out.Is with
 | false => rfl
 | true =>
  rw [k2 hi]
  have hask := h.ask hi
  have hlw := (mayAsk_of hask).2.2.2.2.2.2.2.1
  simp only [cond_true, inR, List.length_cons, List.length_nil]
  rw [show ([{ c.Out.Ask with Epoch := E }] : List TAsk)[0]? = some { c.Out.Ask with Epoch := E } from rfl, some_bind, ref13_SameAsk_ok _ _ (by show c.Out.Ask.Writes.length < _; omega), sameAsk_refl, some_bind, k1]
  simp
end Go.Proofs.YthabbcjjecpbmaaGreat.N

set_option maxRecDepth 100000
namespace Go.Proofs.YthabbcjjecpbmaaGreat
open Go Go.ChangeShapes Go.WideShapes Go.ChangeAt Go.RowKit
namespace Q6
open Go.Proofs.YthabbcjjecpbmaaGreat.D Go.Proofs.YthabbcjjecpbmaaGreat.Z
theorem bind_of {α β : Type} {t : Option α} {b : α} {f : α → Option β} {r : Option β} (h : t = some b) (hr : f b = r) : t.bind f = r := by rw [h]; exact hr
theorem law (xs : List (DVal E.T)) (h : ArgsOk E 1048576 [(.slice (.arr 4 (.int .u8))), (.int .u8)] xs) : ((x6.B Tryz.f6) xs []).get = some (.ret [.val .bool true], []) := by
 match xs, h with
 | [_, _], .cons _ _ x0 _ h0 (.cons _ _ x1 _ h1 .nil) => exact (F6 x0 x1).trans ((Tree.got_eq _).trans ((Tree.get_bind _ _).trans (bind_of (α := Bool) (N.law20_ClientEpoch_ok x0 x1 ⟨(h0 12).1, fun x hx => ((h0 12).2 x hx).1⟩) rfl)))
theorem contract (H : Type) (enc : TypeId × Value → H) (W : World) (base : Nat) (args : Array Value) (ds gs : List (DataW H)) (before : List MemPlace)
  (hval : ∀ (j : Nat) t v, Tryz.f6.params[j]? = some t → args[j]? = some v → Value.okWide Tryz.prog W .any base t v)
  (hW : DataW.Whole enc Tryz.prog Tryz.f6.params.toList Rows.clientEpochSpec.vars false W args.toList ds gs before) (hk : ∀ d ∈ ds, Rows.uptoBulk d ≤ 1048576) :
  Calls Tryz.prog 6 args W fun e W' => ∃ v, e = .returned v ∧ Rows.clientEpochSpec.post enc Tryz.prog Tryz.f6 false true false false W args v W' :=
 law_contract sound tl laid full meas bl (fn := Tryz.f6) (tb := 4) rfl Tryz.underlying4 (ps := [(.slice (.arr 4 (.int .u8))), (.int .u8)]) rfl
  (by
   have h : (Tryz.f6.params.toList.all fun t => Tryz.prog.readableRec t && decide (t < Tryz.prog.types.size)) = true := by kernel_rfl
   intro t ht
   have := List.all_eq_true.1 h t ht
   simpa using this) rfl
  (fun ds hd => by
   match ds, hd with
   | [x0, x1], _ => rfl)
  z6 law W base args ds gs before hval hW hk
theorem lifted (os : Os) (started : os.Started) (H : Type) (enc : TypeId × Value → H) (F : Stop.Interp) :
  ReturnsInHanded {} Tryz.checked os 6 .any ((Rows.OpenSpec.upto Rows.clientEpochSpec).pre6 enc Tryz.prog Tryz.f6 Rows.clientEpochUptoRow.domain false) (((Rows.OpenSpec.upto Rows.clientEpochSpec).at F).post enc Tryz.prog Tryz.f6 false true false false) := by
 refine returnsInHanded_of_cond (C := Tryz.checked) (s := Rows.OpenSpec.upto Rows.clientEpochSpec) (k := Rows.uptoSmall) rfl own started (by kernel_rfl) Tryz.func6
  (OpenSpec.witness (enc := enc) (C := Tryz.checked) (s := Rows.OpenSpec.upto Rows.clientEpochSpec) (k := Rows.uptoSmall) rfl false ⟨#[], #[.slice none 0 0, .int .u8 0], []⟩ 8 (by kernel_rfl) (by kernel_rfl) (by kernel_rfl)
   (x := ([.nil, .lit (.int .u8 0)], [], [])) (by kernel_rfl) rfl (by kernel_rfl)) ?_
 intro W base args ds gs before hval hW _ hk _
 have hgs : gs = [] := by
  obtain ⟨p, q, hA, hV, _⟩ := hW
  cases gs with
  | nil => rfl
  | cons g gs => exact hV.elim
 subst hgs
 exact contract H enc W base args ds [] before hval hW (small hk)
theorem o1 : Tryz.pinned.checked.prog.funcNamed Rows.clientEpochUptoRow.func = some 6 := by kernel_rfl
theorem o2 : joinedFacts Tryz.pinned.checked.prog 6 Tryz.f6 (Rows.OpenSpec.upto Rows.clientEpochSpec).bare Rows.clientEpochUptoRow = true := by kernel_rfl
theorem o3 : Tryz.f6.isInstance Tryz.pinned.checked.prog Rows.clientEpochUptoRow.origin Rows.clientEpochUptoRow.targs := of_decide_eq_true (by kernel_rfl)
theorem o4 : Tryz.f6.isWrapper Tryz.pinned.checked.prog Rows.clientEpochUptoRow.wrapper Rows.clientEpochUptoRow.mainSum := by unfold Func.isWrapper; first | (rw [if_pos (by decide +kernel)]; kernel_rfl) | (rw [if_neg (by decide +kernel)]; exact ⟨rfl, rfl⟩)
theorem over : Rows.clientEpochUptoRow.holds Tryz.pinned (Rows.OpenSpec.upto Rows.clientEpochSpec) :=
 OpenClaim.holds_of_cond 6 Tryz.f6 rfl rfl rfl rfl rfl rfl rfl ⟨rfl, rfl, rfl, rfl, rfl⟩ rfl rfl rfl rfl rfl o1 Tryz.func6 o2 o3 o4
  (fun os started H enc _ F => lifted os started H enc F)
end Q6
theorem clientEpoch_holds : Rows.ClientEpochUptoSaid := Q6.over
end Go.Proofs.YthabbcjjecpbmaaGreat
