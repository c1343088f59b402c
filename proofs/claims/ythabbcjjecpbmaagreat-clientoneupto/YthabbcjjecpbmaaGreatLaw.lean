/- Proved: ClientOne answers true at all arguments of bounded bulk. No condition beyond the statement's. (This text joins: Plain words for this seat (33). Plain words for this seat (34). Plain words for this seat (35). Plain words for this seat (36). The statements' deeds. The plain law of ClientOne.) -/
import Derived.Test.YthabbcjjecpbmaaGreatSeat4
import Derived.KernelRfl
import Derived.Test.YthabbcjjecpbmaaGreatSeat1
import Derived.Test.YthabbcjjecpbmaaGreatSeat3
set_option linter.unusedVariables false
set_option linter.unusedSimpArgs false
namespace Go.Proofs.YthabbcjjecpbmaaGreat.N
open Go
def againS (c : TClient) : TClient × List TAsk := ({ c with Out := { c.Out with Last := c.Now } }, [c.Out.Ask])
def epochS (c : TClient) (t : TTell) : TClient × List TAsk :=
 if t.Epoch ≤ c.Epoch then (c, []) else
 if c.Out.Is = true then againS { c with Epoch := t.Epoch, Files := c.Files.map cache_Reset, Out := { c.Out with Ask := { c.Out.Ask with Epoch := t.Epoch } } }
 else ({ c with Epoch := t.Epoch, Files := c.Files.map cache_Reset }, [])
def callF (c : TClient) (n : Int) : TClient := setF c n { fileAt c n with Called := true }
def calledS (c : TClient) (t : TTell) : TClient × List TAsk :=
 if t.Epoch ≠ c.Epoch ∨ (fileAt c t.File).Mode = 0 then (c, []) else
 if c.Out.Is = true then (callF c t.File, []) else ((givesS (callF c t.File) t.File).1, (givesS (callF c t.File) t.File).2.2)
def namedS (l : List (List UInt8)) (s : List UInt8) (n : Int) : List (List UInt8) :=
 if n < 1 ∨ (l.length : Int) < n then l else (l.map fun x => if x == s then [] else x).set (n - 1).toNat s
def sentN (x : TCache) : Nat := (imax (imin x.Sent (x.Dirty.length : Int)) 0).toNat
def doneC (x : TCache) (ver : Int) : TCache :=
 if x.Mode ≠ 2 then x else ⟨x.Mode, x.Until, ver, allW x.Body (x.Dirty.take (sentN x)), x.Dirty.drop (sentN x), 0, x.Called, x.Lost⟩
def addI (a b : Int) : Int := clock_Add a b
def tellS (c : TClient) (o : TOut) (t : TTell) : TClient :=
 if o.Ask.Kind = 1 then (if t.Err = 0 then { c with Names := namedS c.Names o.Ask.Name t.File } else c)
 else if o.Ask.Kind = 2 then (if t.Err = 0 ∧ c.Now < addI o.First 49 ∧ t.Mode ≠ 0 then setF c o.Ask.File (cache_Let (fileAt c o.Ask.File) t.Mode (addI o.First 49) t.Ver t.Body) else c)
 else if o.Ask.Kind = 3 then setF c o.Ask.File (if t.Err = 0 then doneC (fileAt c o.Ask.File) t.Ver else cache_Reset (fileAt c o.Ask.File))
 else if o.Ask.Kind = 4 then setF c o.Ask.File { fileAt c o.Ask.File with Lost := (fileAt c o.Ask.File).Lost || (!decide (t.Err = 0) && !decide (o.Ask.Writes = [])) }
 else if t.Err = 0 then { c with Names := c.Names.set (o.Ask.File - 1).toNat [] } else c
def doneS (c : TClient) (t : TTell) : TClient :=
 if t.Epoch ≠ c.Epoch ∨ c.Out.Is = false ∨ t.Seq ≠ c.Out.Ask.Seq then c else tellS { c with Out := noOut } c.Out t
def hearS (c : TClient) (t : TTell) : TClient × List TAsk :=
 if t.Kind = 3 then epochS c t else if t.Kind = 2 then calledS c t else (doneS c t, [])
def comeS (c : TClient) (b : List UInt8) : TClient × List TAsk :=
 if (takeTell b).2 = false ∨ (takeTell b).1.To ≠ c.ID then ({ c with Bad := imin (wi64 (c.Bad + 1)) 1073741824 }, []) else hearS c (takeTell b).1
def comesS (c : TClient) (b : List UInt8) : TClient × List TAsk := comeS (lapseS c) b
def dueS (c : TClient) : Bool := decide (wi64 (c.Now - c.Out.Last) ≥ 10)
def earlyF (c : TClient) (f : TCache) : Bool := (f.Mode != 0) && (f.Called || (!decide (f.Dirty = []) && decide (c.Now ≥ wi64 (f.Until - 15))))
def rnS (c : TClient) : TClient × List TAsk :=
 if c.Out.Is = true then (if dueS c = true then againS c else (c, [])) else
 match c.Files.findIdx? (earlyF c) with
 | some i => ((givesS c ((i : Int) + 1)).1, (givesS c ((i : Int) + 1)).2.2)
 | none => (c, [])
def runS (c : TClient) : TClient × List TAsk := rnS (lapseS c)
def eP (w : Tclient_work) : TClient × List TAsk := (w.Client, w.asked)
def eQ (w : Tclient_work) : TClient × List TAsk := (w.Client, [])
theorem epoch_ok {c : TClient} (h : c.Files.length < 1000) (t : TTell) : ∃ s, client_work_epoch fuel t (Wk c) = some s ∧ (match s with | .inl w => eQ w | .inr w => eP w) = epochS c t := by
 unfold client_work_epoch client_work_epoch_t client_work_epoch_l0 epochS
 simp only [get_opt, get_ret, get_ite]
 by_cases he : t.Epoch ≤ c.Epoch
 ·rw [decide_eq_true he, if_pos he]; exact ⟨_, rfl, rfl⟩
 rw [decide_eq_false he, if_neg he, cond_false]
 obtain ⟨x, e, hx⟩ := iter_inv (step := client_work_epoch_s0 (c.Files.length : Int) t) (fun k v => ∃ i : Nat, v.1 = (i : Int) ∧ i + k = c.Files.length ∧ v.2 = Wk { c with Epoch := t.Epoch, Files := mapTo cache_Reset c.Files i }) (fun r => r = Wk { c with Epoch := t.Epoch, Files := c.Files.map cache_Reset }) (fun k v hI => by
  obtain ⟨v1, v2⟩ := v
  obtain ⟨i, hi, hk, he⟩ := hI
  simp only at hi he
  subst hi he
  simp only [client_work_epoch_s0, client_work_epoch_s0t, get_ite, get_opt, get_ret, get_fail, mapTo_len]
  by_cases hlt : i < c.Files.length
  ·have ha := List.getElem?_eq_getElem hlt
   rw [lt_dec hlt, inR_nat hlt, Int.toNat_natCast, mapTo_at _ _ ha, some_bind, mapTo_set cache_Reset _ ha, wi64_succ (by omega)]
   exact ⟨_, rfl, k - 1, by omega, i + 1, rfl, by omega, rfl⟩
  ·obtain rfl : i = c.Files.length := by omega
   rw [ge_dec]
   refine ⟨_, rfl, ?_⟩
   rw [mapTo_end]; rfl) c.Files.length (0, Wk { c with Epoch := t.Epoch }) fuel ⟨0, rfl, by omega, by rw [mapTo_zero]⟩ (fuel_gt (by omega))
 rw [e, some_bind, hx]
 simp only
 cases hi : c.Out.Is with
 | true => exact ⟨_, rfl, rfl⟩
 | false => exact ⟨_, rfl, rfl⟩
theorem shape_setF {c : TClient} (S : Shape c) (n : Int) (x : TCache) (hd : x.Dirty.length ≤ 1000) (hb : x.Body.length ≤ 24) (hu : 0 ≤ x.Until ∧ x.Until ≤ 9223372036854775807) : Shape (setF c n x) where
 files := by unfold setF; simp [S.files]
 names := S.names
 out := S.out
 dirty := fun f hf => by rcases List.mem_or_eq_of_mem_set hf with h | h; exact S.dirty f h; rw [h]; exact hd
 body := fun f hf => by rcases List.mem_or_eq_of_mem_set hf with h | h; exact S.body f h; rw [h]; exact hb
 asked := S.asked
 until_ := fun f hf => by rcases List.mem_or_eq_of_mem_set hf with h | h; exact S.until_ f h; rw [h]; exact hu
 name := S.name
theorem shape_call {c : TClient} (S : Shape c) {n : Int} (h1 : 1 ≤ n) (h6 : n ≤ 6) : Shape (callF c n) :=
 have hm := fileAt_mem S.files h1 h6
 shape_setF S n _ (S.dirty (fileAt c n) hm) (S.body (fileAt c n) hm) (S.until_ (fileAt c n) hm)
theorem called_ok {c : TClient} (S : Shape c) (t : TTell) (h1 : 1 ≤ t.File) (h6 : t.File ≤ 6) :
  ∃ s, client_work_called t (Wk c) = some s ∧ (match s with | .inl w => eQ w | .inr (.inl w) => eQ w | .inr (.inr (.inl w)) => eP w | .inr (.inr (.inr w)) => eP w) = calledS c t := by
 have hx := fileAt_some S.files h1 h6
 unfold client_work_called client_work_called_t calledS
 simp only [get_opt, get_ite, get_ret, get_altT, (file_ok S.files h1 h6 _).1, some_bind, alt_inl, hx]
 by_cases he : t.Epoch = c.Epoch
 ·by_cases hm : (fileAt c t.File).Mode = 0
  ·rw [if_pos (Or.inr hm), beq_of hm, show (t.Epoch != c.Epoch) = false by simp [he]]
   exact ⟨_, rfl, rfl⟩
  ·rw [if_neg (by simp [he, hm]), beq_ne hm, show (t.Epoch != c.Epoch) = false by simp [he]]
   cases hi : c.Out.Is with
   | true => exact ⟨_, rfl, rfl⟩
   | false =>
    have hg := (gives_ok (shape_call S h1 h6) h1 h6 []).1
    simp only [cond_false, Bool.not_false, cond_true]
    rw [show (⟨{ c with Files := c.Files.set (t.File - 1).toNat { fileAt c t.File with Called := true } }, []⟩ : Tclient_work) = Wk (callF c t.File) from rfl, hg]
    exact ⟨_, rfl, rfl⟩
 ·rw [if_pos (Or.inl he), show (t.Epoch != c.Epoch) = true by simp [he]]
  exact ⟨_, rfl, rfl⟩
theorem file_none {c : TClient} {n : Int} (h : n < 1) (l : List TAsk) : client_work_file_3 n ⟨c, l⟩ = some (.inr ()) := by
 unfold client_work_file_3 client_work_file_3_t
 simp only [get_ite, get_ret, get_fail]
 rw [decide_eq_true h]; rfl
theorem named_loop (c : TClient) (ho : c.Out = noOut) (s : List UInt8) (n : Int) (h : c.Names.length < 1000) : client_work_named_l0 fuel s n (c.Names.length : Int) 0 (Wk c) = some (Wk { c with Names := c.Names.map fun x => if x == s then [] else x }) ∧ client_work_named_2_l0 fuel s n (c.Names.length : Int) 0 (Wk c) = some (Wk { c with Names := c.Names.map fun x => if x == s then [] else x }) := by
 obtain ⟨id, now, ep, sq, fs, nm, o, bad, hits, asks⟩ := c
 simp only at ho h
 subst ho
 unfold client_work_named_l0 client_work_named_2_l0
 let I : Nat → Int × Tclient_work → Prop := fun k v => ∃ i : Nat, v.1 = (i : Int) ∧ i + k = nm.length ∧ v.2 = Wk ⟨id, now, ep, sq, fs, mapTo (fun x => if x == s then [] else x) nm i, noOut, bad, hits, asks⟩
 let Q : Tclient_work → Prop := fun x => x = Wk ⟨id, now, ep, sq, fs, nm.map (fun x => if x == s then [] else x), noOut, bad, hits, asks⟩
 have key : ∀ k (v : Int × Tclient_work), I k v →
   ∃ o, client_work_named_s0 s n (nm.length : Int) v = some o ∧ client_work_named_2_s0 s n (nm.length : Int) v = some o ∧ Sum.elim (fun v' => ∃ k', k' < k ∧ I k' v') Q o := fun k v hI => by
  obtain ⟨v1, v2⟩ := v
  obtain ⟨i, hi, hk, he⟩ := hI
  simp only at hi he
  subst hi he
  simp only [client_work_named_s0, client_work_named_s0t, client_work_named_2_s0, client_work_named_2_s0t, get_ite, get_opt, get_ret, get_fail, mapTo_len]
  by_cases hlt : i < nm.length
  ·have ha := List.getElem?_eq_getElem hlt
   have hs := mapTo_set (fun x => if x == s then [] else x) _ ha
   rw [lt_dec hlt, inR_nat hlt, Int.toNat_natCast, mapTo_at _ _ ha, some_bind, wi64_succ (by omega)]
   cases hc : (nm[i] == s) with
   | true =>
    simp only [hc, if_true] at hs
    simp only [hs]
    exact ⟨_, rfl, rfl, k - 1, by omega, i + 1, rfl, by omega, rfl⟩
   | false =>
    simp only [hc, Bool.false_eq_true, if_false] at hs
    have hm := mapTo_at (fun x => if x == s then [] else x) nm ha
    have hset : (mapTo (fun x => if x == s then [] else x) nm i).set i nm[i] = mapTo (fun x => if x == s then [] else x) nm i := by
     apply List.ext_getElem?
     intro j
     rw [List.getElem?_set]
     split
     ·rename_i h; subst h; rw [hm]; simp [mapTo_len, hlt]
     ·rfl
    rw [hset] at hs
    rw [hs]
    exact ⟨_, rfl, rfl, k - 1, by omega, i + 1, rfl, by omega, rfl⟩
  ·obtain rfl : i = nm.length := by omega
   rw [ge_dec]
   refine ⟨_, rfl, rfl, ?_⟩
   rw [mapTo_end]; rfl
 constructor
 ·obtain ⟨x, e, hx⟩ := iter_inv (step := client_work_named_s0 s n (nm.length : Int)) I Q (fun k v hI => by
   obtain ⟨o, e1, _, h⟩ := key k v hI
   exact ⟨o, e1, h⟩) nm.length (0, Wk ⟨id, now, ep, sq, fs, nm, noOut, bad, hits, asks⟩) fuel ⟨0, rfl, by omega, by rw [mapTo_zero]⟩ (fuel_gt (by omega))
  rw [e, hx]
 ·obtain ⟨x, e, hx⟩ := iter_inv (step := client_work_named_2_s0 s n (nm.length : Int)) I Q (fun k v hI => by
   obtain ⟨o, _, e1, h⟩ := key k v hI
   exact ⟨o, e1, h⟩) nm.length (0, Wk ⟨id, now, ep, sq, fs, nm, noOut, bad, hits, asks⟩) fuel ⟨0, rfl, by omega, by rw [mapTo_zero]⟩ (fuel_gt (by omega))
  rw [e, hx]
open Go
theorem named_ok (c : TClient) (ho : c.Out = noOut) (s : List UInt8) (n : Int) (h : c.Names.length < 1000) : client_work_named fuel s n (Wk c) = some (Wk { c with Names := namedS c.Names s n }) ∧ client_work_named_2 fuel s n (Wk c) = some (Wk { c with Names := namedS c.Names s n }) := by
 obtain ⟨l1, l2⟩ := named_loop c ho s n h
 obtain ⟨id, now, ep, sq, fs, nm, o, bad, hits, asks⟩ := c
 simp only at ho h l1 l2
 subst ho
 unfold client_work_named client_work_named_2 client_work_named_t client_work_named_2_t namedS
 simp only [get_opt, get_ite, get_ret, get_fail]
 by_cases c1 : n < 1
 ·rw [decide_eq_true c1, if_pos (Or.inl c1)]; exact ⟨rfl, rfl⟩
 by_cases c2 : n > (nm.length : Int)
 ·rw [decide_eq_false c1, decide_eq_true c2, if_pos (Or.inr c2)]; exact ⟨rfl, rfl⟩
 rw [decide_eq_false c1, decide_eq_false c2, if_neg (by omega)]
 simp only [cond_false]
 have e : (⟨⟨id, now, ep, sq, fs, nm, { noOut with Ask := { noOut.Ask with Writes := [] } }, bad, hits, asks⟩, []⟩ : Tclient_work) = Wk ⟨id, now, ep, sq, fs, nm, noOut, bad, hits, asks⟩ := rfl
 rw [e, l1, l2]
 simp only [some_bind, List.length_map]
 rw [wi64_of (show -9223372036854775808 ≤ n - 1 by omega) (by omega), inR_of (by omega) (by omega), List.getElem?_eq_getElem (show (n - 1).toNat < (nm.map fun x => if x == s then [] else x).length by simp; omega), some_bind]
 exact ⟨rfl, rfl⟩
theorem sentN_le (x : TCache) : sentN x ≤ x.Dirty.length := by
 unfold sentN imax imin
 split <;> split <;> omega
theorem Done_ok (x : TCache) (ver : Int) (hd : x.Dirty.length ≤ 1000) (hb : x.Body.length ≤ 24) : cache_Done fuel x ver = some (doneC x ver) := by
 have hn : imax (imin x.Sent (x.Dirty.length : Int)) 0 = (sentN x : Int) := by
  unfold sentN imax imin; split <;> split <;> omega
 have hle := sentN_le x
 unfold cache_Done cache_Done_t doneC
 simp only [get_opt, get_ite, get_ret, get_fail, hn]
 by_cases hm : x.Mode = 2
 ·rw [if_neg (by simp [hm]), show (x.Mode != 2) = false by simp [hm], cutOk_of (Int.le_refl _) (by omega) (by omega), cutOk_of (by omega) (by omega) (Int.le_refl _), cut_front, cut_back, file_All_ok _ _ (by simp; omega) hb, some_bind]
  rfl
 ·rw [if_pos hm, show (x.Mode != 2) = true by simp [hm]]; rfl
theorem short_60 : clock_Short 60 100 = some 49 := by rfl
def askShape (a : TAsk) : Prop := (a.Kind = 1 ∧ a.File = 0) ∨ ((2 ≤ a.Kind ∧ a.Kind ≤ 5) ∧ 1 ≤ a.File ∧ a.File ≤ 6)
theorem askShape_of {a : TAsk} (h : mayAsk a = true) : askShape a := by
 have hk := (mayAsk_of h).1
 unfold mayAsk at h
 simp only [Bool.and_eq_true] at h
 obtain ⟨h1, h2, h3, h4, h5, h6⟩ := h
 have h6 := (sameAsk_iff _ _).1 h6
 by_cases k1 : a.Kind = 1
 ·refine Or.inl ⟨k1, ?_⟩
  unfold want at h6
  rw [beq_of k1] at h6
  simp only [cond_true] at h6
  rw [h6]
 ·refine Or.inr ⟨by omega, ?_⟩
  unfold wantOk at h5
  rw [beq_ne k1] at h5
  by_cases k2 : a.Kind = 2
  ·rw [beq_of k2] at h5
   simp only [cond_true, cond_false, Bool.and_eq_true, rng_iff] at h5
   exact h5.1
  ·rw [beq_ne k2] at h5
   simp only [cond_false] at h5
   cases hw : wantW a with
   | true => rw [hw] at h5; simp only [cond_true, Bool.and_eq_true, rng_iff] at h5; exact h5.2.2.1
   | false => rw [hw] at h5; simp only [cond_false, rng_iff] at h5; exact h5
def eD : Tclient_work ⊕ Tclient_work → TClient
 | .inl w => { w.Client with Out := { w.Client.Out with Ask := { w.Client.Out.Ask with Writes := [] } } }
 | .inr w => w.Client
theorem done_ok {c : TClient} (S : Shape c) (A : c.Out.Is = true → askShape c.Out.Ask) (t : TTell) : ∃ s, client_work_done fuel t (Wk c) = some s ∧ eD s = doneS c t := by
 unfold client_work_done client_work_done_t doneS
 simp only [get_opt, get_ite, get_ret, get_fail, get_altT]
 by_cases he : t.Epoch = c.Epoch
 case neg => rw [if_pos (Or.inl he), show (t.Epoch != c.Epoch) = true by simp [he]]; exact ⟨_, rfl, rfl⟩
 cases hi : c.Out.Is with
 | false => rw [if_pos (Or.inr (Or.inl rfl)), show (t.Epoch != c.Epoch) = false by simp [he]]; exact ⟨_, rfl, rfl⟩
 | true =>
 by_cases hs : t.Seq = c.Out.Ask.Seq
 case neg => rw [if_pos (Or.inr (Or.inr hs)), show (t.Epoch != c.Epoch) = false by simp [he], show (t.Seq != c.Out.Ask.Seq) = true by simp [hs]]; exact ⟨_, rfl, rfl⟩
 rw [if_neg (by simp [he, hs]), show (t.Epoch != c.Epoch) = false by simp [he], show (t.Seq != c.Out.Ask.Seq) = false by simp [hs]]
 simp only [cond_false, cond_true, Bool.not_true]
 have e0 : (⟨{ c with Out := ⟨false, ⟨0, 0, 0, 0, [], 0, 0, []⟩, 0, 0⟩ }, []⟩ : Tclient_work) = Wk { c with Out := noOut } := rfl
 simp only [e0]
 unfold tellS
 rcases A hi with ⟨k, f⟩ | ⟨⟨k2, k5⟩, f1, f6⟩
 ·have nm := (named_ok { c with Out := noOut } rfl c.Out.Ask.Name t.File (by show c.Names.length < 1000; rw [S.names]; omega)).2
  rw [file_none (show c.Out.Ask.File < 1 by omega), some_bind, if_pos k, beq_of k]
  simp only [alt_inr, cond_true]
  by_cases er : t.Err = 0
  ·rw [if_pos er, beq_of er, nm]; exact ⟨_, rfl, rfl⟩
  ·rw [if_neg er, beq_ne er]; exact ⟨_, rfl, rfl⟩
 ·have hx := fileAt_some S.files f1 f6
  have hm := fileAt_mem S.files f1 f6
  have hf : fileAt { c with Out := noOut } c.Out.Ask.File = fileAt c c.Out.Ask.File := rfl
  rw [(file_ok (c := { c with Out := noOut }) S.files f1 f6 _).2.2, some_bind, if_neg (show ¬ c.Out.Ask.Kind = 1 by omega), beq_ne (show ¬ c.Out.Ask.Kind = 1 by omega)]
  simp only [alt_inl, cond_false, hx, some_bind, short_60, hf, Done_ok _ _ (S.dirty _ hm) (S.body _ hm)]
  by_cases q2 : c.Out.Ask.Kind = 2
  ·rw [if_pos q2, beq_of q2]
   simp only [cond_true]
   by_cases er : t.Err = 0
   ·rw [beq_of er]
    by_cases hn : c.Now < clock_Add c.Out.First 49
    ·rw [decide_eq_true hn]
     by_cases hmo : t.Mode = 0
     ·rw [if_neg (by simp [hmo]), show (t.Mode != 0) = false by simp [hmo]]; exact ⟨_, rfl, rfl⟩
     ·rw [if_pos ⟨er, hn, hmo⟩, show (t.Mode != 0) = true by simp [hmo]]; exact ⟨_, rfl, rfl⟩
    ·rw [decide_eq_false hn, if_neg (fun h => hn h.2.1)]; exact ⟨_, rfl, rfl⟩
   ·rw [beq_ne er, if_neg (fun h => er h.1)]; exact ⟨_, rfl, rfl⟩
  rw [if_neg q2, beq_ne q2]
  simp only [cond_false]
  by_cases q3 : c.Out.Ask.Kind = 3
  ·rw [if_pos q3, beq_of q3]
   by_cases er : t.Err = 0
   ·rw [if_pos er, beq_of er]; exact ⟨_, rfl, rfl⟩
   ·rw [if_neg er, beq_ne er]; exact ⟨_, rfl, rfl⟩
  rw [if_neg q3, beq_ne q3]
  simp only [cond_false]
  by_cases q4 : c.Out.Ask.Kind = 4
  ·rw [if_pos q4, beq_of q4]
   simp only [cond_true, len_gtz]
   cases hl : (fileAt c c.Out.Ask.File).Lost with
   | true => exact ⟨_, rfl, by simp [eD, setF, noOut]⟩
   | false =>
    by_cases er : t.Err = 0
    ·rw [beq_of er, decide_eq_true er]; exact ⟨_, rfl, rfl⟩
    ·rw [beq_ne er, decide_eq_false er]; exact ⟨_, rfl, by simp [eD, setF, noOut]⟩
  rw [if_neg q4, beq_ne q4]
  simp only [cond_false]
  have q5 : c.Out.Ask.Kind = 5 := by omega
  rw [beq_of q5]
  by_cases er : t.Err = 0
  ·rw [if_pos er, beq_of er]
   have hn6 := S.names
   rw [wi64_of (show -9223372036854775808 ≤ c.Out.Ask.File - 1 by omega) (by omega), inR_of (by omega) (by omega), List.getElem?_eq_getElem (show (c.Out.Ask.File - 1).toNat < c.Names.length by omega)]
   exact ⟨_, rfl, rfl⟩
  ·rw [if_neg er, beq_ne er]; exact ⟨_, rfl, rfl⟩
theorem recall_file {t : TTell} (h : msg_MayTell t = true) (k : t.Kind = 2) : 1 ≤ t.File ∧ t.File ≤ 6 := by
 unfold msg_MayTell msg_MayTell_t at h
 simp only [val_ite, val_ret, msg_from_eq, k] at h
 cases h1 : rng 1 3 (2 : Int) <;> rw [h1] at h
 ·cases h
 cases h2 : rng 1 3 t.To <;> rw [h2] at h
 ·cases h
 cases h3 : rng 0 1073741824 t.Epoch <;> rw [h3] at h
 ·cases h
 simp only [Bool.not_true, cond_false, show ((2 : Int) == 2) = true from rfl, cond_true] at h
 cases h4 : TTell.eqb t ⟨2, t.To, t.Epoch, 0, 0, t.File, 0, 0, []⟩ <;> rw [h4] at h
 ·cases h
 exact rng_iff.1 h
theorem take_may {b : List UInt8} (h : (takeTell b).2 = true) : msg_MayTell (takeTell b).1 = true ∧ b = putTell (takeTell b).1 := by
 obtain ⟨x, r, _, hz, hm⟩ := takeTell_true h
 have := takeTell_put hm
 rw [← hz] at this
 rw [this]
 exact ⟨hm, hz⟩
theorem Comes_ok {c : TClient} (S : Shape (lapseS c)) (A : c.Out.Is = true → askShape c.Out.Ask) (b : List UInt8) (hb : b.length ≤ lim) : client_Comes fuel c b = some (comesS c b) := by
 have hl : c.Files.length < 1000 := by have := S.files; unfold lapseS at this; simp at this; omega
 unfold client_Comes client_Comes_t comesS comeS hearS
 simp only [get_opt, get_ite, get_ret, get_fail, get_altT, of_ok c hl, some_bind, msg_TakeTell_ok b hb]
 have hid : (lapseS c).ID = c.ID := rfl
 rw [hid]
 cases ht : (takeTell b).2 with
 | false => rw [if_pos (Or.inl rfl)]; rfl
 | true =>
  by_cases hto : (takeTell b).1.To = c.ID
  case neg => rw [if_pos (Or.inr hto), show ((takeTell b).1.To != c.ID) = true by simp [hto]]; rfl
  rw [if_neg (by simp [hto]), show ((takeTell b).1.To != c.ID) = false by simp [hto]]
  simp only [Bool.not_true, cond_false]
  obtain ⟨hm, _⟩ := take_may ht
  generalize (takeTell b).1 = t at hm
  have hk := (mayTell_of hm).1
  by_cases k3 : t.Kind = 3
  ·rw [if_pos k3, beq_of k3, cond_true]
   obtain ⟨s, e, hs⟩ := epoch_ok (c := lapseS c) (by unfold lapseS; simp; exact hl) t
   rw [e, some_bind, ← hs]
   cases s <;> rfl
  rw [if_neg k3, beq_ne k3, cond_false]
  by_cases k2 : t.Kind = 2
  ·rw [if_pos k2, beq_of k2, cond_true]
   obtain ⟨f1, f6⟩ := recall_file hm k2
   obtain ⟨s, e, hs⟩ := called_ok S t f1 f6
   rw [e, some_bind, ← hs]
   rcases s with s | s | s | s <;> rfl
  rw [if_neg k2, beq_ne k2, beq_of (show t.Kind = 1 by omega), cond_false, cond_true]
  obtain ⟨s, e, hs⟩ := done_ok S A t
  rw [e, some_bind, ← hs]
  cases s <;> rfl
theorem index_cache (c : TClient) (h : c.Files.length < 1000) : slices_IndexFunc_Cache fuel c.Files (Wk c) = some (match c.Files.findIdx? (earlyF c) with | some i => (i : Int) | none => -1, Wk c) := by
 unfold slices_IndexFunc_Cache slices_IndexFunc_Cache_t slices_IndexFunc_Cache_l0
 simp only [get_opt, get_ret, get_altT]
 have hc : ∀ f, client_Run_c1 f (Wk c) = earlyF c f := fun f => by
  unfold client_Run_c1 client_Run_c1_t earlyF
  simp only [val_ite, val_ret, len_gtz]
  cases f.Mode != 0 <;> cases f.Called <;> cases decide (f.Dirty = []) <;> rfl
 obtain ⟨x, e, hx⟩ := iter_inv (step := slices_IndexFunc_Cache_s0 c.Files (c.Files.length : Int)) (fun k v => ∃ i : Nat, v.1 = (i : Int) ∧ i + k = c.Files.length ∧ v.2 = Wk c ∧ c.Files.findIdx? (earlyF c) = ((c.Files.drop i).findIdx? (earlyF c)).map (· + i)) (fun r => match c.Files.findIdx? (earlyF c) with | some i => r = .inl ((i : Int), Wk c) | none => r = .inr (Wk c)) (fun k v hI => by
  obtain ⟨v1, v2⟩ := v
  obtain ⟨i, hi, hk, hv, he⟩ := hI
  simp only at hi hv
  subst hi hv
  simp only [slices_IndexFunc_Cache_s0, slices_IndexFunc_Cache_s0t, get_ite, get_opt, get_ret, get_fail, hc]
  by_cases hlt : i < c.Files.length
  ·have ha := List.getElem?_eq_getElem hlt
   rw [lt_dec hlt, inR_nat hlt, Int.toNat_natCast, ha, some_bind]
   rw [List.drop_eq_getElem_cons hlt, List.findIdx?_cons] at he
   cases hcc : earlyF c c.Files[i] with
   | true =>
    rw [hcc] at he
    refine ⟨_, rfl, ?_⟩
    rw [he]; simp
   | false =>
    rw [hcc] at he
    rw [wi64_succ (by omega)]
    refine ⟨_, rfl, k - 1, by omega, i + 1, rfl, by omega, rfl, ?_⟩
    rw [he]
    simp only [Bool.false_eq_true, if_false, Option.map_map]
    congr 1
    funext j
    simp; omega
  ·obtain rfl : i = c.Files.length := by omega
   rw [ge_dec]
   refine ⟨_, rfl, ?_⟩
   rw [List.drop_length] at he
   rw [he]; rfl) c.Files.length (0, Wk c) fuel ⟨0, rfl, by omega, rfl, by simp⟩ (fuel_gt (by omega))
 rw [e, some_bind]
 cases hf : c.Files.findIdx? (earlyF c) with
 | none => rw [hf] at hx; rw [hx]; rfl
 | some i => rw [hf] at hx; rw [hx]; rfl
theorem early_lt {c : TClient} {i : Nat} (h : c.Files.findIdx? (earlyF c) = some i) : i < c.Files.length := (List.findIdx?_eq_some_iff_getElem.1 h).1
theorem Run_ok {c : TClient} (S : Shape (lapseS c)) : client_Run fuel c = some (runS c) := by
 have hl : c.Files.length < 1000 := by have := S.files; unfold lapseS at this; simp at this; omega
 unfold client_Run client_Run_t runS
 simp only [get_opt, get_ite, get_ret, get_fail, get_altT, of_ok c hl, some_bind]
 generalize lapseS c = d at S
 unfold rnS
 cases hi : d.Out.Is with
 | true =>
  rw [if_pos rfl, cond_true]
  have : sess_Due d.Out d.Now = dueS d := by
   unfold sess_Due sess_Due_t dueS
   simp only [val_ite, val_ret, hi, cond_true]
  rw [this]
  cases dueS d <;> rfl
 | false =>
  rw [if_neg (by simp), cond_false]
  rw [index_cache d (by have := S.files; omega), some_bind]
  cases hf : d.Files.findIdx? (earlyF d) with
  | none => rfl
  | some i =>
   have hlt := early_lt hf
   have h6 := S.files
   simp only
   rw [decide_eq_true (show (i : Int) ≥ 0 by omega), wi64_of (by omega) (by omega), (gives_ok S (show 1 ≤ (i : Int) + 1 by omega) (by omega) []).2]
   rfl
open Go
structure FileOk (now : Int) (f : TCache) : Prop where
 mode : 0 ≤ f.Mode ∧ f.Mode ≤ 2
 till : 0 ≤ f.Until ∧ f.Until ≤ 9223372036854775807
 soon : f.Mode ≠ 0 → f.Until ≤ now + 49
 few : f.Dirty.length ≤ 5
 may : ∀ w ∈ f.Dirty, file_May w = true
 body : f.Body.length ≤ 24
 ver : 0 ≤ f.Ver
 free : f.Mode = 0 → f.Dirty = []
structure CliOk (n : Int) (c : TClient) : Prop where
 files : c.Files.length = 6
 names : c.Names.length = 6
 file : ∀ f ∈ c.Files, FileOk c.Now f
 name : ∀ s ∈ c.Names, s.length ≤ 8
 id : 1 ≤ c.ID ∧ c.ID ≤ 3
 now : 0 ≤ c.Now ∧ c.Now ≤ 9223372036854775807
 epoch : 0 ≤ c.Epoch ∧ c.Epoch ≤ 1073741824
 seq : 0 ≤ c.Seq ∧ c.Seq ≤ n
 none : c.Out.Is = false → c.Out = noOut
 ask : c.Out.Is = true → mayAsk c.Out.Ask = true
 sure : c.Out.Is = true → c.Out.Ask.From = c.ID ∧ c.Out.Ask.Epoch = c.Epoch ∧ c.Out.Ask.Seq = c.Seq
 first : c.Out.Is = true → (0 ≤ c.Out.First ∧ c.Out.First ≤ c.Now) ∧ 0 ≤ c.Out.Last ∧ c.Out.Last ≤ c.Now
theorem CliOk.shape {n : Int} {c : TClient} (h : CliOk n c) : Shape c where
 files := h.files
 names := h.names
 out := h.none
 dirty := fun f hf => Nat.le_trans (h.file f hf).few (by omega)
 body := fun f hf => (h.file f hf).body
 asked := by
  cases hi : c.Out.Is with
  | true => exact Nat.le_trans (mayAsk_of (h.ask hi)).2.2.2.2.2.2.2.1 (by omega)
  | false => rw [h.none hi]; exact Nat.zero_le _
 until_ := fun f hf => (h.file f hf).till
 name := h.name
theorem CliOk.shaped {n : Int} {c : TClient} (h : CliOk n c) (i : c.Out.Is = true) : askShape c.Out.Ask := askShape_of (h.ask i)
theorem CliOk.more {n m : Int} {c : TClient} (h : CliOk n c) (hm : n ≤ m) : CliOk m c := { h with seq := ⟨h.seq.1, Int.le_trans h.seq.2 hm⟩ }
theorem FileOk.later {a b : Int} {f : TCache} (h : FileOk a f) (hab : a ≤ b) : FileOk b f := { h with soon := fun m => Int.le_trans (h.soon m) (by omega) }
theorem reset_ok (f : TCache) (now : Int) : FileOk now (cache_Reset f) := by
 unfold cache_Reset cache_Reset_t
 simp only [val_ite, val_ret]
 cases f.Lost <;> exact ⟨⟨Int.le_refl _, by simp⟩, ⟨Int.le_refl _, by simp⟩, fun h => absurd rfl h, Nat.zero_le _, fun w hw => (by simp at hw), Nat.zero_le _, Int.le_refl _, fun _ => rfl⟩
theorem lapse_ok {f : TCache} {now : Int} (h : FileOk now f) : FileOk now (cache_Lapse f now) := by
 unfold cache_Lapse cache_Lapse_t
 simp only [val_ite, val_ret]
 cases f.Mode == 0
 ·cases cache_Valid f now != 0
  ·exact reset_ok f now
  ·exact h
 ·exact h
theorem cli_lapse {n : Int} {c : TClient} (h : CliOk n c) : CliOk n (lapseS c) :=
 {h with
  files := by unfold lapseS; simp [h.files]
  file := fun f hf => by
   unfold lapseS at hf
   simp only [List.mem_map] at hf
   obtain ⟨g, hg, e⟩ := hf
   rw [← e]
   exact lapse_ok (h.file g hg) }
theorem cli_setF {n : Int} {c : TClient} (h : CliOk n c) (k : Int) {x : TCache} (hx : FileOk c.Now x) : CliOk n (setF c k x) :=
 {h with
  files := by unfold setF; simp [h.files]
  file := fun f hf => by rcases List.mem_or_eq_of_mem_set hf with g | g; exact h.file f g; rw [g]; exact hx }
theorem cli_file {n : Int} {c : TClient} (h : CliOk n c) {k : Int} (h1 : 1 ≤ k) (h6 : k ≤ 6) : FileOk c.Now (fileAt c k) := h.file _ (fileAt_mem h.files h1 h6)
def goodAsk (a : TAsk) : Bool := rng 1 5 a.Kind && (wantOk a && sameAsk a (want a))
theorem stamp_may {n : Int} {c : TClient} (h : CliOk n c) (hn : n < 1073741824) {a : TAsk} (g : goodAsk a = true) : mayAsk (stamp c a) = true := by
 have e : wi64 (c.Seq + 1) = c.Seq + 1 := wi64_of (by have := h.seq; omega) (by have := h.seq; omega)
 unfold goodAsk at g
 simp only [Bool.and_eq_true] at g
 obtain ⟨g1, g2, g3⟩ := g
 unfold mayAsk
 simp only [Bool.and_eq_true]
 refine ⟨g1, rng_iff.2 h.id, rng_iff.2 h.epoch, rng_iff.2 (by unfold stamp; simp only; rw [e]; have := h.seq; omega), ?_, ?_⟩
 ·exact g2
 ·rw [sameAsk_iff] at g3 ⊢
  unfold want at g3 ⊢
  unfold stamp
  unfold wantW at g3 ⊢
  simp only at g3 ⊢
  cases k1 : a.Kind == 1 <;> cases k2 : a.Kind == 2 <;> cases k3 : a.Kind == 3 <;> cases k4 : a.Kind == 4 <;> rw [k1, k2, k3, k4] at g3 <;> simp only [cond_true, cond_false, Bool.or_true, Bool.or_false, Bool.true_or, Bool.false_or] at g3 ⊢ <;> rw [g3]
theorem cli_ask {n : Int} {c : TClient} (h : CliOk n c) (hn : n < 1073741824) {a : TAsk} (g : goodAsk a = true) : CliOk (n + 1) (askS c a).1 := by
 have hs := h.seq
 have e : wi64 (c.Seq + 1) = c.Seq + 1 := wi64_of (by omega) (by omega)
 exact { h with
  seq := by unfold askS; simp only; rw [e]; omega
  none := fun x => by cases x
  ask := fun _ => stamp_may h hn g
  sure := fun _ => ⟨rfl, rfl, rfl⟩
  first := fun _ => ⟨⟨h.now.1, Int.le_refl _⟩, h.now.1, Int.le_refl _⟩ }
structure Grow (n : Int) (c c' : TClient) (l : List TAsk) : Prop where
 ok : CliOk (n + 1) c'
 now : c'.Now = c.Now
 id : c'.ID = c.ID
 asks : (l = [] ∧ c'.Seq = c.Seq) ∨ (∃ a, l = [a] ∧ c'.Out.Is = true ∧ c'.Out.Ask = a ∧ c.Seq ≤ c'.Seq ∧ c'.Seq ≤ c.Seq + 1)
theorem grow_say {n : Int} {c : TClient} (h : CliOk n c) : Grow n c c [] := ⟨h.more (by omega), rfl, rfl, Or.inl ⟨rfl, rfl⟩⟩
theorem grow_ask {n : Int} {c d : TClient} (h : CliOk n d) (hn : n < 1073741824) (h1 : d.Now = c.Now) (h2 : d.ID = c.ID) (h3 : d.Seq = c.Seq) {a : TAsk} (g : goodAsk a = true) : Grow n c (askS d a).1 (askS d a).2.2 := by
 have hs := h.seq
 have e : wi64 (d.Seq + 1) = d.Seq + 1 := wi64_of (by omega) (by omega)
 refine ⟨cli_ask h hn g, h1, h2, Or.inr ⟨_, rfl, rfl, rfl, ?_, ?_⟩⟩ <;> (unfold askS; simp only; rw [e]; omega)
theorem noCache_ok (now : Int) (b : Bool) : FileOk now { noCache with Lost := b } :=
 ⟨⟨Int.le_refl _, by simp [noCache]⟩, ⟨Int.le_refl _, by simp [noCache]⟩, fun h => absurd rfl h, Nat.zero_le _, fun w hw => (by simp [noCache] at hw), Nat.zero_le _, Int.le_refl _, fun _ => rfl⟩
theorem good_writes {k : Int} {ws : List TWrite} (hk : k = 4 ∨ k = 3 ∧ ws ≠ []) {f : Int} (h1 : 1 ≤ f) (h6 : f ≤ 6) (hl : ws.length ≤ 5) (hw : ∀ w ∈ ws, file_May w = true) : goodAsk ⟨k, 0, 0, 0, [], f, 0, ws⟩ = true := by
 have hall : ws.all file_May = true := List.all_eq_true.2 hw
 have hr : rng 1 6 f = true := rng_iff.2 ⟨h1, h6⟩
 unfold goodAsk wantOk want wantW
 simp only [Bool.and_eq_true]
 rcases hk with hk | ⟨hk, hne⟩
 ·subst hk
  refine ⟨rfl, ?_, ?_⟩
  ·simp only [show ((4 : Int) == 1) = false from rfl, show ((4 : Int) == 2) = false from rfl, show ((4 : Int) == 3) = false from rfl, show ((4 : Int) == 4) = true from rfl, cond_false, cond_true, Bool.or_true, Bool.false_or, hall, hr, Bool.and_true, Bool.true_and]
   exact decide_eq_true (by omega)
  ·exact sameAsk_refl _
 ·subst hk
  refine ⟨rfl, ?_, ?_⟩
  ·simp only [show ((3 : Int) == 1) = false from rfl, show ((3 : Int) == 2) = false from rfl, show ((3 : Int) == 3) = true from rfl, show ((3 : Int) == 4) = false from rfl, cond_false, cond_true, Bool.or_false, Bool.true_or, hall, hr, Bool.and_true, Bool.and_eq_true]
   refine ⟨decide_eq_true (by omega), ?_⟩
   rw [len_gtz, decide_eq_false hne]; rfl
  ·exact sameAsk_refl _
theorem good_lease {f m : Int} (h1 : 1 ≤ f) (h6 : f ≤ 6) (hm : m = 1 ∨ m = 2) : goodAsk ⟨2, 0, 0, 0, [], f, m, []⟩ = true := by
 have hr : rng 1 6 f = true := rng_iff.2 ⟨h1, h6⟩
 unfold goodAsk wantOk want
 simp only [show ((2 : Int) == 1) = false from rfl, show ((2 : Int) == 2) = true from rfl, cond_false, cond_true, hr, Bool.true_and, Bool.and_eq_true]
 rcases hm with hm | hm <;> subst hm <;> exact ⟨rfl, rfl, sameAsk_refl _⟩
theorem good_gone {f : Int} (h1 : 1 ≤ f) (h6 : f ≤ 6) : goodAsk ⟨5, 0, 0, 0, [], f, 0, []⟩ = true := by
 have hr : rng 1 6 f = true := rng_iff.2 ⟨h1, h6⟩
 unfold goodAsk wantOk want wantW
 simp only [show ((5 : Int) == 1) = false from rfl, show ((5 : Int) == 2) = false from rfl, show ((5 : Int) == 3) = false from rfl, show ((5 : Int) == 4) = false from rfl, cond_false, Bool.or_false, hr, Bool.true_and, Bool.and_eq_true]
 exact ⟨rfl, sameAsk_refl _⟩
theorem good_open {s : List UInt8} (h : mayName s = true) : goodAsk ⟨1, 0, 0, 0, s, 0, 0, []⟩ = true := by
 unfold goodAsk wantOk want
 simp only [show ((1 : Int) == 1) = true from rfl, cond_true, h, Bool.true_and, Bool.and_eq_true]
 exact ⟨rfl, sameAsk_refl _⟩
theorem grow_gives {n : Int} {c : TClient} (h : CliOk n c) (hn : n < 1073741824) {f : Int} (h1 : 1 ≤ f) (h6 : f ≤ 6) : Grow n c (givesS c f).1 (givesS c f).2.2 := by
 have hf := cli_file h h1 h6
 obtain ⟨g1, g2, g3, g4⟩ := grow_ask (c := c) h hn rfl rfl rfl (good_writes (k := 4) (Or.inl rfl) h1 h6 hf.few hf.may)
 exact ⟨cli_setF g1 f (noCache_ok _ _), g2, g3, g4⟩
theorem sent_ok {now : Int} {f : TCache} (h : FileOk now f) (m : Int) : FileOk now { f with Sent := m } := ⟨h.mode, h.till, h.soon, h.few, h.may, h.body, h.ver, h.free⟩
theorem grow_flush {n : Int} {c : TClient} (h : CliOk n c) (hn : n < 1073741824) {f : Int} (h1 : 1 ≤ f) (h6 : f ≤ 6) (hd : (fileAt c f).Dirty ≠ []) : Grow n c (flushS c f).1 (flushS c f).2.2 := by
 have hf := cli_file h h1 h6
 exact grow_ask (c := c) (cli_setF h f (sent_ok hf _)) hn rfl rfl rfl (good_writes (k := 3) (Or.inr ⟨rfl, hd⟩) h1 h6 hf.few hf.may)
theorem cli_hits {n : Int} {c : TClient} (h : CliOk n c) (k : Int) : CliOk n { c with Hits := k } := { h with }
theorem valid_2 {f : TCache} {now : Int} (h : cache_Valid f now = 2) : f.Mode = 2 := by
 unfold cache_Valid cache_Valid_t at h
 simp only [val_ite, val_ret] at h
 cases hd : decide (now ≥ f.Until) <;> rw [hd] at h
 ·exact h
 ·cases h
theorem grow_step {n : Int} {c : TClient} (h : CliOk n c) (hn : n < 1073741824) (s : TStep) : Grow n c (stepS c s).1 (stepS c s).2.2 ∧ (c.Out.Is = true → (stepS c s).1.Out = c.Out) := by
 unfold stepS
 split
 ·exact ⟨grow_say h, fun _ => rfl⟩
 rename_i k0
 split
 ·unfold opensS
  split
  ·exact ⟨grow_say h, fun _ => rfl⟩
  rename_i hm
  split
  ·exact ⟨⟨h.more (by omega), rfl, rfl, Or.inl ⟨rfl, rfl⟩⟩, fun _ => rfl⟩
  split
  ·exact ⟨grow_say h, fun _ => rfl⟩
  rename_i hi
  exact ⟨grow_ask h hn rfl rfl rfl (good_open (by simpa using hm)), fun x => absurd x hi⟩
 rename_i k3
 split
 ·exact ⟨grow_say h, fun _ => rfl⟩
 rename_i kf
 have h1 : 1 ≤ s.File := by omega
 have h6 : s.File ≤ 6 := by omega
 have hf := cli_file h h1 h6
 split
 ·exact ⟨grow_say h, fun _ => rfl⟩
 rename_i k5
 split
 ·refine ⟨⟨(cli_setF h s.File (?_ : FileOk c.Now _)).more (by omega), rfl, rfl, Or.inl ⟨rfl, rfl⟩⟩, fun _ => rfl⟩
  exact ⟨hf.mode, hf.till, hf.soon, hf.few, hf.may, hf.body, hf.ver, hf.free⟩
 rename_i kl
 split
 ·unfold readsS
  split
  ·exact ⟨⟨(cli_hits h _).more (by omega), rfl, rfl, Or.inl ⟨rfl, rfl⟩⟩, fun _ => rfl⟩
  split
  ·exact ⟨grow_say h, fun _ => rfl⟩
  rename_i hi
  exact ⟨grow_ask h hn rfl rfl rfl (good_lease h1 h6 (Or.inl rfl)), fun x => absurd x hi⟩
 rename_i k4
 split
 ·rename_i k5'
  unfold writesS
  split
  ·rename_i hw
   have hb := hw.2.2
   unfold bufOk at hb
   simp only [Bool.and_eq_true, decide_eq_true_eq] at hb
   refine ⟨⟨((cli_hits (cli_setF h s.File (?_ : FileOk c.Now _)) _)).more (by omega), rfl, rfl, Or.inl ⟨rfl, rfl⟩⟩, fun _ => rfl⟩
   refine ⟨hf.mode, hf.till, hf.soon, by simp; omega, fun w hw => ?_, hf.body, hf.ver, fun (m : (fileAt c s.File).Mode = 0) => absurd (eq_of_beq hb.1.2) (by rw [m]; decide)⟩
   simp only [List.mem_append, List.mem_singleton] at hw
   rcases hw with hw | hw
   ·exact hf.may w hw
   ·rw [hw]; exact hb.2
  rename_i hw
  split
  ·exact ⟨grow_say h, fun _ => rfl⟩
  rename_i hi
  split
  ·exact ⟨grow_ask h hn rfl rfl rfl (good_lease h1 h6 (Or.inr rfl)), fun x => absurd x hi⟩
  rename_i hv
  have hv : cache_Valid (fileAt c s.File) c.Now = 2 := by simpa using hv
  split
  ·exact ⟨grow_gives h hn h1 h6, fun x => absurd x hi⟩
  rename_i hc
  refine ⟨grow_flush h hn h1 h6 (fun hd => hw ⟨hv, by simpa using hc, ?_⟩), fun x => absurd x hi⟩
  have hm : file_May ⟨s.Off, s.Text⟩ = true := by
   cases hx : file_May ⟨s.Off, s.Text⟩ with
   | true => rfl
   | false => exact absurd ⟨k5', hx⟩ k5
  unfold bufOk
  rw [hd, hm, beq_of (valid_2 hv)]; rfl
 rename_i k5'
 split
 ·unfold syncsS
  split
  ·exact ⟨grow_say h, fun _ => rfl⟩
  split
  ·exact ⟨grow_say h, fun _ => rfl⟩
  rename_i hd
  split
  ·exact ⟨grow_say h, fun _ => rfl⟩
  rename_i hi
  exact ⟨grow_flush h hn h1 h6 hd, fun x => absurd x hi⟩
 rename_i k6
 split
 ·unfold dropsS
  split
  ·exact ⟨grow_say h, fun _ => rfl⟩
  split
  ·exact ⟨grow_say h, fun _ => rfl⟩
  rename_i hi
  exact ⟨grow_gives h hn h1 h6, fun x => absurd x hi⟩
 ·unfold endsS
  split
  ·exact ⟨grow_say h, fun _ => rfl⟩
  rename_i hi
  split
  ·exact ⟨grow_say h, fun _ => rfl⟩
  exact ⟨grow_ask (c := c) (cli_setF h _ (reset_ok _ _)) hn rfl rfl rfl (good_gone h1 h6), fun x => absurd x hi⟩
theorem grow_do {n : Int} {c : TClient} (h : CliOk n c) (hn : n < 1073741824) (s : TStep) : Grow n c (doS c s).1 (doS c s).2.2 ∧ (c.Out.Is = true → (doS c s).1.Out = c.Out) := by
 obtain ⟨⟨g1, g2, g3, g4⟩, g5⟩ := grow_step (cli_lapse h) hn s
 exact ⟨⟨g1, g2, g3, g4⟩, g5⟩
open Go
theorem may_epoch {a : TAsk} (h : mayAsk a = true) {e : Int} (he : 0 ≤ e ∧ e ≤ 1073741824) : mayAsk { a with Epoch := e } = true := by
 unfold mayAsk at h ⊢
 simp only [Bool.and_eq_true] at h ⊢
 obtain ⟨h1, h2, h3, h4, h5, h6⟩ := h
 refine ⟨h1, h2, rng_iff.2 he, h4, h5, ?_⟩
 rw [sameAsk_iff] at h6 ⊢
 unfold want wantW at h6 ⊢
 simp only at h6 ⊢
 cases k1 : a.Kind == 1 <;> cases k2 : a.Kind == 2 <;> cases k3 : a.Kind == 3 <;> cases k4 : a.Kind == 4 <;> rw [k1, k2, k3, k4] at h6 <;> simp only [cond_true, cond_false, Bool.or_true, Bool.or_false, Bool.true_or, Bool.false_or] at h6 ⊢ <;> rw [h6]
theorem grow_again {n : Int} {c d : TClient} (h : CliOk n d) (hi : d.Out.Is = true) (h1 : d.Now = c.Now) (h2 : d.ID = c.ID) (h3 : d.Seq = c.Seq) : Grow n c (againS d).1 (againS d).2 := by
 refine ⟨?_, h1, h2, Or.inr ⟨_, rfl, hi, rfl, by rw [show (againS d).1.Seq = d.Seq from rfl, h3]; omega, by rw [show (againS d).1.Seq = d.Seq from rfl, h3]; omega⟩⟩
 exact { h with
  seq := ⟨h.seq.1, by have := h.seq.2; show d.Seq ≤ n + 1; omega⟩
  none := fun x => by rw [show (againS d).1.Out.Is = d.Out.Is from rfl, hi] at x; cases x
  ask := fun _ => h.ask hi
  sure := fun _ => h.sure hi
  first := fun _ => ⟨(h.first hi).1, h.now.1, Int.le_refl _⟩ }
theorem grow_epoch {n : Int} {c : TClient} (h : CliOk n c) {t : TTell} (ht : 0 ≤ t.Epoch ∧ t.Epoch ≤ 1073741824) : Grow n c (epochS c t).1 (epochS c t).2 := by
 unfold epochS
 split
 ·exact grow_say h
 have hf : ∀ f ∈ c.Files.map cache_Reset, FileOk c.Now f := fun f hf => by
  simp only [List.mem_map] at hf
  obtain ⟨g, _, e⟩ := hf
  rw [← e]
  exact reset_ok g _
 split
 ·rename_i hi
  refine grow_again (c := c) { h with files := by simp [h.files], file := hf, epoch := ht, none := fun x => ?_, ask := fun _ => may_epoch (h.ask hi) ht, sure := fun _ => ⟨(h.sure hi).1, rfl, (h.sure hi).2.2⟩, first := fun _ => h.first hi } hi rfl rfl rfl
  simp only at x; rw [hi] at x; cases x
 ·rename_i hi
  refine ⟨{ h with files := by simp [h.files], file := hf, epoch := ht, seq := ⟨h.seq.1, by have := h.seq.2; show c.Seq ≤ n + 1; omega⟩, ask := fun x => absurd x hi, sure := fun x => absurd x hi, first := fun x => absurd x hi }, rfl, rfl, Or.inl ⟨rfl, rfl⟩⟩
theorem cli_call {n : Int} {c : TClient} (h : CliOk n c) {k : Int} (h1 : 1 ≤ k) (h6 : k ≤ 6) : CliOk n (callF c k) := by
 have hf := cli_file h h1 h6
 exact cli_setF h k ⟨hf.mode, hf.till, hf.soon, hf.few, hf.may, hf.body, hf.ver, hf.free⟩
theorem grow_called {n : Int} {c : TClient} (h : CliOk n c) (hn : n < 1073741824) {t : TTell} (h1 : 1 ≤ t.File) (h6 : t.File ≤ 6) : Grow n c (calledS c t).1 (calledS c t).2 := by
 unfold calledS
 split
 ·exact grow_say h
 split
 ·exact ⟨(cli_call h h1 h6).more (by omega), rfl, rfl, Or.inl ⟨rfl, rfl⟩⟩
 ·obtain ⟨g1, g2, g3, g4⟩ := grow_gives (cli_call h h1 h6) hn h1 h6
  exact ⟨g1, g2, g3, g4⟩
theorem named_len (l : List (List UInt8)) (s : List UInt8) (n : Int) : (namedS l s n).length = l.length := by
 unfold namedS; split <;> simp
theorem named_short {l : List (List UInt8)} {s : List UInt8} (hl : ∀ x ∈ l, x.length ≤ 8) (hs : s.length ≤ 8) (n : Int) : ∀ x ∈ namedS l s n, x.length ≤ 8 := by
 intro x hx
 unfold namedS at hx
 split at hx
 ·exact hl x hx
 ·rcases List.mem_or_eq_of_mem_set hx with g | g
  ·simp only [List.mem_map] at g
   obtain ⟨y, hy, e⟩ := g
   split at e
   ·rw [← e]; simp
   ·rw [← e]; exact hl y hy
  ·rw [g]; exact hs
theorem addI_le {a : Int} (h0 : 0 ≤ a) (h1 : a ≤ 9223372036854775807) : (0 ≤ addI a 49 ∧ addI a 49 ≤ 9223372036854775807) ∧ addI a 49 ≤ a + 49 := by
 unfold addI clock_Add clock_Add_t
 simp only [val_ite, val_ret]
 by_cases ha : a > 0
 ·rw [decide_eq_true ha, wi64_of (show -9223372036854775808 ≤ 9223372036854775807 - a by omega) (by omega)]
  by_cases hb : (49 : Int) > 9223372036854775807 - a
  ·rw [decide_eq_true hb]; simp only [cond_true]; omega
  ·rw [decide_eq_false hb, wi64_of (show -9223372036854775808 ≤ a + 49 by omega) (by omega)]; simp only [cond_true, cond_false]; omega
 ·rw [decide_eq_false ha, wi64_of (show -9223372036854775808 ≤ a + 49 by omega) (by omega)]; simp only [cond_false]; omega
theorem doneC_ok {now : Int} {f : TCache} (h : FileOk now f) {v : Int} (hv : 0 ≤ v) : FileOk now (doneC f v) := by
 unfold doneC
 split
 ·exact h
 ·rename_i hm
  refine ⟨h.mode, h.till, h.soon, ?_, fun w hw => h.may w (List.mem_of_mem_drop hw), allW_len _ _ h.body, hv, fun (m : f.Mode = 0) => by rw [m] at hm; exact absurd hm (by decide)⟩
  have := h.few
  simp only [List.length_drop]; omega
theorem cli_tell {n : Int} {c : TClient} (h : CliOk n c) (hi : c.Out.Is = true) {t : TTell} (ht : msg_MayTell t = true) : CliOk n (tellS { c with Out := noOut } c.Out t) := by
 have d : CliOk n { c with Out := noOut } := { h with none := fun _ => rfl, ask := fun x => (nomatch x), sure := fun x => (nomatch x), first := fun x => (nomatch x) }
 obtain ⟨_, _, _, _, _, hF, hM, hV, hB⟩ := mayTell_of ht
 have hname := (mayAsk_of (h.ask hi)).2.2.2.2.1
 have hfirst := h.first hi
 unfold tellS
 rcases h.shaped hi with ⟨k, f⟩ | ⟨⟨k2, k5⟩, f1, f6⟩
 ·rw [if_pos k]
  split
  ·exact { d with names := by rw [named_len]; exact h.names, name := named_short h.name hname _ }
  ·exact d
 ·rw [if_neg (by omega)]
  have hf : FileOk c.Now (fileAt { c with Out := noOut } c.Out.Ask.File) := cli_file (c := c) h f1 f6
  split
  ·split
   ·rename_i hc
    have hn := h.now
    obtain ⟨g1, g2⟩ := addI_le hfirst.1.1 (by omega)
    exact cli_setF d _ ⟨hM, g1, fun _ => by show addI c.Out.First 49 ≤ c.Now + 49; omega, hf.few, hf.may, hB, hV.1, fun (m : t.Mode = 0) => absurd m hc.2.2⟩
   ·exact d
  split
  ·refine cli_setF d _ ?_
   split
   ·exact doneC_ok hf hV.1
   ·exact reset_ok _ _
  split
  ·exact cli_setF d _ ⟨hf.mode, hf.till, hf.soon, hf.few, hf.may, hf.body, hf.ver, hf.free⟩
  split
  ·refine { d with names := by simp [h.names], name := fun x hx => ?_ }
   rcases List.mem_or_eq_of_mem_set hx with g | g
   ·exact h.name x g
   ·rw [g]; simp
  ·exact d
theorem tell_keeps (c : TClient) (o : TOut) (t : TTell) : (tellS c o t).Now = c.Now ∧ (tellS c o t).ID = c.ID ∧ (tellS c o t).Seq = c.Seq ∧ (tellS c o t).Out = c.Out ∧ (tellS c o t).Epoch = c.Epoch := by
 unfold tellS
 repeat' split
 all_goals exact ⟨rfl, rfl, rfl, rfl, rfl⟩
theorem grow_done {n : Int} {c : TClient} (h : CliOk n c) {t : TTell} (ht : msg_MayTell t = true) : Grow n c (doneS c t) [] := by
 unfold doneS
 split
 ·exact grow_say h
 rename_i hc
 have hi : c.Out.Is = true := by cases hx : c.Out.Is with
  | true => rfl
  | false => exact absurd (Or.inr (Or.inl hx)) hc
 obtain ⟨e1, e2, e3, _, _⟩ := tell_keeps { c with Out := noOut } c.Out t
 exact ⟨(cli_tell h hi ht).more (by omega), e1, e2, Or.inl ⟨rfl, e3⟩⟩
theorem grow_comes {n : Int} {c : TClient} (h : CliOk n c) (hn : n < 1073741824) (b : List UInt8) : Grow n c (comesS c b).1 (comesS c b).2 := by
 have g := cli_lapse h
 unfold comesS comeS
 split
 ·exact ⟨{ g with seq := ⟨g.seq.1, by have := g.seq.2; show c.Seq ≤ n + 1; exact Int.le_trans this (by omega)⟩ }, rfl, rfl, Or.inl ⟨rfl, rfl⟩⟩
 rename_i hb
 have ht : (takeTell b).2 = true := by
  cases hx : (takeTell b).2 with
  | true => rfl
  | false => exact absurd (Or.inl hx) hb
 have hm := (take_may ht).1
 generalize (takeTell b).1 = t at hm
 have key : Grow n (lapseS c) (hearS (lapseS c) t).1 (hearS (lapseS c) t).2 := by
  unfold hearS
  split
  ·exact grow_epoch g (mayTell_of hm).2.2.1
  split
  ·rename_i k2
   obtain ⟨f1, f6⟩ := recall_file hm k2
   exact grow_called g hn f1 f6
  ·exact grow_done g hm
 obtain ⟨k1, k2, k3, k4⟩ := key
 exact ⟨k1, k2, k3, k4⟩
theorem grow_run {n : Int} {c : TClient} (h : CliOk n c) (hn : n < 1073741824) : Grow n c (runS c).1 (runS c).2 ∧ (c.Out.Is = true → (runS c).1.Out.Ask = c.Out.Ask) := by
 have g := cli_lapse h
 have key : Grow n (lapseS c) (rnS (lapseS c)).1 (rnS (lapseS c)).2 ∧ ((lapseS c).Out.Is = true → (rnS (lapseS c)).1.Out.Ask = (lapseS c).Out.Ask) := by
  generalize lapseS c = d at g
  unfold rnS
  split
  ·rename_i hi
   split
   ·exact ⟨grow_again g hi rfl rfl rfl, fun _ => rfl⟩
   ·exact ⟨grow_say g, fun _ => rfl⟩
  rename_i hi
  split
  ·rename_i i hf
   have hlt := early_lt hf
   have h6 := g.files
   exact ⟨grow_gives g hn (by omega) (by omega), fun x => absurd x hi⟩
  ·exact ⟨grow_say g, fun _ => rfl⟩
 obtain ⟨⟨k1, k2, k3, k4⟩, k5⟩ := key
 exact ⟨⟨k1, k2, k3, k4⟩, k5⟩
theorem cli_time {n : Int} {c : TClient} (h : CliOk n c) {t : Int} (ht : c.Now ≤ t) (h2 : t ≤ 9223372036854775807) : CliOk n { c with Now := t } :=
 {h with
  file := fun f hf => (h.file f hf).later ht
  now := ⟨Int.le_trans h.now.1 ht, h2⟩
  first := fun i => by have := h.first i; show (0 ≤ c.Out.First ∧ c.Out.First ≤ t) ∧ 0 ≤ c.Out.Last ∧ c.Out.Last ≤ t; omega }
theorem new_ok {i : Int} (h1 : 1 ≤ i) (h3 : i ≤ 3) : CliOk 0 (client_New i) := by
 have hf : ∀ f ∈ (client_New i).Files, f = noCache := fun f hf => by
  unfold client_New at hf
  simp only [List.mem_cons, List.not_mem_nil, or_false] at hf
  rcases hf with h | h | h | h | h | h <;> exact h
 have hs : ∀ s ∈ (client_New i).Names, s = [] := fun s hs => by
  unfold client_New at hs
  simp only [List.mem_cons, List.not_mem_nil, or_false] at hs
  rcases hs with h | h | h | h | h | h <;> exact h
 exact ⟨rfl, rfl, fun f h => by rw [hf f h]; exact noCache_ok _ false, fun s h => by rw [hs s h]; simp, ⟨h1, h3⟩, ⟨Int.le_refl _, by simp [client_New]⟩, ⟨Int.le_refl _, by simp [client_New]⟩, ⟨Int.le_refl _, Int.le_refl _⟩, fun _ => rfl, fun x => (nomatch x), fun x => (nomatch x), fun x => (nomatch x)⟩
set_option maxRecDepth 100000
open Go
theorem law20_begun_ok : law20_begun fuel = some true := by rw [fuel_eq]; kernel_rfl
theorem tmod_lo (y : UInt8) (m : Int) (h0 : 0 < m) (h1 : m ≤ 256) : 0 ≤ i8 (b8 ((i8 y).tmod m)) ∧ i8 (b8 ((i8 y).tmod m)) < m := by
 have h : 0 ≤ i8 y := Int.natCast_nonneg _
 have e := Int.tmod_eq_emod_of_nonneg (b := m) h
 have a := Int.emod_nonneg (i8 y) (show m ≠ 0 by omega)
 have b := Int.emod_lt_of_pos (i8 y) h0
 rw [e, i8_b8 a (by omega)]
 exact ⟨a, b⟩
theorem okt_pick {A B : Type} {Q : B → Prop} {L : List A} {g : A → D.Tree B} {e : D.Tree B} {m : Int} {n : Nat} {y : UInt8} (hn : L.length = n) (hm : m = n) (h1 : 0 < n ∧ n ≤ 256) (h : ∀ x ∈ L, Okt (g x) Q) :
  Okt (.ite (inR (i8 (b8 ((i8 y).tmod m))) n) (.opt (L[(i8 (b8 ((i8 y).tmod m))).toNat]?) g) e) Q := by
 obtain ⟨a, b⟩ := tmod_lo y m (by omega) (by omega)
 have hl : (i8 (b8 ((i8 y).tmod m))).toNat < L.length := by omega
 refine okt_ite (fun _ => ?_) (fun hf => ?_)
 ·exact okt_opt (List.getElem?_eq_getElem hl) (h _ (List.getElem_mem hl))
 ·rw [inR_of a (by omega)] at hf; cases hf
structure DeedOk (c : TClient) (r : TStep × List UInt8 × Int) : Prop where
 bytes : r.2.1.length ≤ 100
 time : 0 ≤ r.2.2 ∧ r.2.2 ≤ 20
 text : r.1.Text.length ≤ 1
 told : r.2.1 = [] ∨ ∃ t, r.2.1 = putTell t ∧ t.Epoch ≤ c.Epoch + 2
theorem deed_ok (c : TClient) (d : List UInt8) (h : d.length = 4) (he : 0 ≤ c.Epoch ∧ c.Epoch ≤ 1073741824) : ∃ r, law20_deed fuel c d = some r ∧ DeedOk c r := by
 match d, h with
 | [d0, d1, d2, d3], _ =>
 unfold law20_deed law20_deed_t
 refine okt_opt (x := d1) rfl ?_
 refine okt_opt (x := d0) rfl ?_
 have quick : ∀ (y_4 y_1 y_6 y_7 : UInt8) (Q : TStep × List UInt8 × Int → Prop) (e : D.Tree (TStep × List UInt8 × Int)), (∀ r, DeedOk c r → Q r) → Okt (
  D.Tree.ite (inR (i8 (b8 ((i8 y_4).tmod 7))) 7) (.opt ([4, 5, 5, 6, 7, 8, 3][(i8 (b8 ((i8 y_4).tmod 7))).toNat]?) fun y_5 =>
  .opt ([d0, d1, d2, d3][3]?) fun y_6 =>
  .ite (y_5 == 3) (.opt ([d0, d1, d2, d3][3]?) fun y_7 =>
  .ite (inR (i8 (b8 ((i8 y_7).tmod 3))) 3) (.opt ([[97], [98], []][(i8 (b8 ((i8 y_7).tmod 3))).toNat]?) fun y_8 =>
   .ret ((TStep.mk y_5 c.ID 0 (wi64 (1 + (wi64 (i8 (b8 ((i8 y_1).tmod 2)))))) (wi64 (i8 (b8 ((i8 y_6).tmod 9)))) 0 0 y_8 []), [], 0)) .fail)
  (.ret ((TStep.mk y_5 c.ID 0 (wi64 (1 + (wi64 (i8 (b8 ((i8 y_1).tmod 2)))))) (wi64 (i8 (b8 ((i8 y_6).tmod 9)))) 0 0 [116] []), [], 0))) .fail) Q := fun y_4 y_1 y_6 y_7 Q e hQ => by
  refine okt_pick (n := 7) rfl rfl (by decide) fun x _ => ?_
  refine okt_opt (x := d3) rfl ?_
  refine okt_ite (fun _ => ?_) (fun _ => okt_ret (hQ _ ⟨by simp, by simp, by simp, Or.inl rfl⟩))
  refine okt_opt (x := d3) rfl ?_
  refine okt_pick (n := 3) rfl rfl (by decide) fun z hz => ?_
  refine okt_ret (hQ _ ⟨by simp, by simp, ?_, Or.inl rfl⟩)
  simp only [List.mem_cons, List.not_mem_nil, or_false] at hz
  rcases hz with hz | hz | hz <;> rw [hz] <;> simp
 refine okt_ite (fun _ => ?_) (fun _ => ?_)
 ·refine okt_opt (x := d1) rfl ?_
  obtain ⟨a, b⟩ := tmod_lo d1 20 (by decide) (by decide)
  refine okt_ret ⟨by simp, ?_, by simp, Or.inl rfl⟩
  show 0 ≤ wi64 (1 + wi64 (i8 (b8 ((i8 d1).tmod 20)))) ∧ wi64 (1 + wi64 (i8 (b8 ((i8 d1).tmod 20)))) ≤ 20
  rw [wi64_of (show -9223372036854775808 ≤ i8 (b8 ((i8 d1).tmod 20)) by omega) (by omega), wi64_of (by omega) (by omega)]
  omega
 refine okt_ite (fun _ => okt_ret ⟨by simp, by simp, by simp, Or.inl rfl⟩) (fun _ => ?_)
 refine okt_ite (fun _ => okt_opt (x := d2) rfl (quick d2 d1 d1 d1 _ .fail fun _ h => h)) (fun _ => ?_)
 refine okt_ite (fun _ => okt_opt (x := d2) rfl (quick d2 d1 d1 d1 _ .fail fun _ h => h)) (fun _ => ?_)
 refine okt_ite (fun _ => okt_opt (x := d2) rfl (quick d2 d1 d1 d1 _ .fail fun _ h => h)) (fun _ => ?_)
 refine okt_ite (fun _ => okt_opt (x := d2) rfl (quick d2 d1 d1 d1 _ .fail fun _ h => h)) (fun _ => ?_)
 refine okt_ite (fun _ => okt_opt (x := d2) rfl (quick d2 d1 d1 d1 _ .fail fun _ h => h)) (fun _ => ?_)
 have put : ∀ t : TTell, t.Epoch ≤ c.Epoch + 2 → Okt (D.Tree.opt (ref13_PutTell fuel t) fun r_31 => .ret ((TStep.mk 0 0 0 0 0 0 0 [] []), r_31, (0 : Int))) (DeedOk c) := fun t h =>
  okt_opt (ref13_PutTell_ok t) (okt_ret ⟨by have := putTell_len t; show (putTell t).length ≤ 100; omega, by simp, by simp, Or.inr ⟨t, rfl, h⟩⟩)
 refine okt_ite (fun _ => ?_) (fun _ => ?_)
 ·refine okt_opt (x := d2) rfl ?_
  refine okt_ite (fun _ => okt_opt (x := d3) rfl (put _ ?_)) (fun _ => put _ (by show c.Epoch ≤ c.Epoch + 2; omega))
  obtain ⟨a, b⟩ := tmod_lo d3 3 (by decide) (by decide)
  show wi64 (c.Epoch + wi64 (i8 (b8 ((i8 d3).tmod 3)))) ≤ c.Epoch + 2
  rw [wi64_of (show -9223372036854775808 ≤ i8 (b8 ((i8 d3).tmod 3)) by omega) (by omega), wi64_of (by omega) (by omega)]
  omega
 ·refine okt_opt (x := d3) rfl (okt_opt (x := d2) rfl ?_)
  refine okt_pick (n := 6) rfl rfl (by decide) fun x _ => ?_
  refine okt_opt (x := d2) rfl ?_
  exact okt_ite (fun _ => put _ (by show c.Epoch ≤ c.Epoch + 2; omega)) (fun _ => put _ (by show c.Epoch ≤ c.Epoch + 2; omega))
open Go
structure Seen (c c' : TClient) (p : List TAsk) (quiet : Bool) : Prop where
 lo : ¬ c'.Seq < c.Seq
 hi : ¬ c'.Seq > wi64 (c.Seq + 1)
 files : c'.Files.length = 6
 asks : (p = [] ∧ ¬ c'.Seq > c.Seq) ∨ ∃ a, p = [a] ∧ mayAsk a = true ∧ a.From = c'.ID ∧ a.Epoch = c'.Epoch ∧ a.Seq = c'.Seq ∧ c'.Out.Is = true ∧ c'.Out.Ask = a
 same : quiet = true → c.Out.Is = true → c'.Out.Is = true → c'.Out.Ask.Seq = c.Out.Ask.Seq
theorem seen_of {n : Int} {c c' : TClient} {p : List TAsk} {q : Bool} (h : CliOk n c) (hn : n < 1073741824) (g : Grow n c c' p) (hs : q = true → c.Out.Is = true → c'.Out.Is = true → c'.Out.Ask.Seq = c.Out.Ask.Seq) : Seen c c' p q := by
 have hq := h.seq
 have e : wi64 (c.Seq + 1) = c.Seq + 1 := wi64_of (by omega) (by omega)
 obtain ⟨g1, g2, g3, g4⟩ := g
 refine ⟨?_, ?_, g1.files, ?_, hs⟩
 ·rcases g4 with ⟨_, h⟩ | ⟨a, _, _, _, h, _⟩ <;> omega
 ·rw [e]; rcases g4 with ⟨_, h⟩ | ⟨a, _, _, _, _, h⟩ <;> omega
 ·rcases g4 with ⟨h1, h2⟩ | ⟨a, h1, h2, h3, _, _⟩
  ·exact Or.inl ⟨h1, by omega⟩
  ·refine Or.inr ⟨a, h1, ?_⟩
   obtain ⟨s1, s2, s3⟩ := g1.sure h2
   have s0 := g1.ask h2
   rw [h3] at s0 s1 s2 s3
   exact ⟨s0, s1, s2, s3, h2, h3⟩
theorem one_round (l : List (List UInt8)) (hl : l.length ≤ 80) (h4 : ∀ x ∈ l, x.length = 4) (i : Nat) (c : TClient) (hi : i ≤ l.length) (h : CliOk (i : Int) c) (hnow : c.Now ≤ 20 * i) :
  Okt (law20_ClientOne_s0t fuel l ((i : Int), c)) (Sum.elim (fun v => i < l.length ∧ v.1 = ((i + 1 : Nat) : Int) ∧ CliOk ((i + 1 : Nat) : Int) v.2 ∧ v.2.Now ≤ 20 * ((i + 1 : Nat) : Int)) (fun x => ∃ d, x = .inr (.inr d))) := by
 have hn : (i : Int) < 1073741824 := by omega
 unfold law20_ClientOne_s0t
 by_cases hlt : i < l.length
 case neg =>
  obtain rfl : i = l.length := by omega
  exact okt_ite (fun x => absurd x (by rw [ge_dec]; simp)) (fun _ => okt_ret ⟨_, rfl⟩)
 refine okt_ite (fun _ => ?_) (fun x => absurd x (by rw [lt_dec hlt]; simp))
 refine okt_ite (fun _ => ?_) (fun x => absurd x (by rw [inR_nat hlt]; simp))
 refine okt_opt (x := l[i]) (by rw [Int.toNat_natCast]; exact List.getElem?_eq_getElem hlt) ?_
 refine okt_optE (deed_ok c _ (h4 _ (List.getElem_mem hlt)) h.epoch) fun r hr => ?_
 obtain ⟨s, b, t⟩ := r
 obtain ⟨hb, ht, htx, _⟩ := hr
 simp only at hb ht htx
 have hseq := h.seq
 have hno := h.now
 have e1 : wi64 (c.Seq + 1) = c.Seq + 1 := wi64_of (by omega) (by omega)
 have e2 : wi64 (c.Now + t) = c.Now + t := wi64_of (by omega) (by omega)
 have e3 := wi64_succ (i := i) (by omega)
 simp only [e2, e3]
 by_cases hpos : t > 0
 ·refine okt_ite (fun _ => ?_) (fun x => absurd x (by simp [hpos]))
  have good : (Sum.elim (fun v => i < l.length ∧ v.1 = ((i + 1 : Nat) : Int) ∧ CliOk ((i + 1 : Nat) : Int) v.2 ∧ v.2.Now ≤ 20 * ((i + 1 : Nat) : Int)) (fun x => ∃ d, x = .inr (.inr d)) : (Int × TClient) ⊕ ((TClient × TStep × TClient) ⊕ ((TClient × TStep × TClient) ⊕ TClient)) → Prop) (.inl (((i + 1 : Nat) : Int), { c with Now := c.Now + t })) := by
   refine ⟨hlt, rfl, (cli_time h (t := c.Now + t) (by omega) (by omega)).more (by omega), ?_⟩
   show c.Now + t ≤ _
   omega
  have hf := h.files
  repeat' (first
   | exact okt_ret good
   | (refine okt_f ?_ ?_; · (simp [e1, hf] <;> omega))
   | (refine okt_t ?_ ?_; · (simp [e1, hf] <;> omega))
   | refine okt_ite (fun h => ?_) (fun h => ?_))
 refine okt_ite (fun x => absurd x (by simp; omega)) (fun _ => ?_)
 have fin : ∀ (c' : TClient) (p : List TAsk) (q : Bool), Grow (i : Int) c c' p → (Sum.elim (fun v => i < l.length ∧ v.1 = ((i + 1 : Nat) : Int) ∧ CliOk ((i + 1 : Nat) : Int) v.2 ∧ v.2.Now ≤ 20 * ((i + 1 : Nat) : Int)) (fun x => ∃ d, x = .inr (.inr d)) : (Int × TClient) ⊕ ((TClient × TStep × TClient) ⊕ ((TClient × TStep × TClient) ⊕ TClient)) → Prop) (.inl (((i + 1 : Nat) : Int), c')) := fun c' p q g => ⟨hlt, rfl, g.ok, by show c'.Now ≤ 20 * ((i + 1 : Nat) : Int); rw [g.now]; omega⟩
 have hle : b.length ≤ lim := by rw [lim_eq]; omega
 refine okt_ite (fun hb1 => ?_) (fun hb1 => ?_)
 ·have g := grow_comes h hn b
  have sn := seen_of (q := false) h hn g (fun x => by cases x)
  refine okt_opt (Comes_ok (cli_lapse h).shape h.shaped b hle) ?_
  have good := fin _ _ false g
  clear g
  revert sn good
  generalize comesS c b = r
  obtain ⟨c', p⟩ := r
  intro sn good
  obtain ⟨s1, s2, s3, s4, s5⟩ := sn
  dsimp only at s1 s2 s3 s4 s5 good
  have hb0 : ((b.length : Int) == 0) = false := by
   rw [len_gtz] at hb1; rw [len_eqz]; simpa using hb1
  rcases s4 with ⟨hp, s6⟩ | ⟨a, hp, m1, m2, m3, m4, m5, m6⟩ <;> subst hp
  ·repeat' (first
    | exact okt_ret good
    | (refine okt_f ?_ ?_; · (simp [s1, s2, s3, s6, hb0] <;> omega))
    | (refine okt_t ?_ ?_; · (simp [s1, s2, s3, s6, hb0] <;> omega))
    | refine okt_ite (fun h => ?_) (fun h => ?_))
  ·have hmay := ref13_MayAsk_ok a (by have := (mayAsk_of m1).2.2.2.2.1; omega) (by have := (mayAsk_of m1).2.2.2.2.2.2.2.1; omega)
   have hsame := ref13_SameAsk_ok c'.Out.Ask a (by rw [m6]; have := (mayAsk_of m1).2.2.2.2.2.2.2.1; omega)
   repeat' (first
    | exact okt_ret good
    | refine okt_opt (x := a) rfl ?_
    | refine okt_opt hmay ?_
    | refine okt_opt hsame ?_
    | (refine okt_f ?_ ?_; · (simp [s1, s2, s3, hb0, m1, m2, m3, m4, m5, m6, inR, sameAsk_refl] <;> omega))
    | (refine okt_t ?_ ?_; · (simp [s1, s2, s3, hb0, m1, m2, m3, m4, m5, m6, inR, sameAsk_refl] <;> omega))
    | refine okt_ite (fun h => ?_) (fun h => ?_))
 have hb0 : ((b.length : Int) == 0) = true := by
  rw [len_gtz] at hb1; rw [len_eqz]; simpa using hb1
 refine okt_ite (fun _ => ?_) (fun _ => ?_)
 ·obtain ⟨g, hg⟩ := grow_run h hn
  have sn := seen_of (q := true) h hn g (fun _ x _ => by rw [hg x])
  refine okt_opt (Run_ok (cli_lapse h).shape) ?_
  have good := fin _ _ false g
  clear g hg
  revert sn good
  generalize runS c = r
  obtain ⟨c', p⟩ := r
  intro sn good
  obtain ⟨s1, s2, s3, s4, s5⟩ := sn
  dsimp only at s1 s2 s3 s4 s5 good
  rcases s4 with ⟨hp, s6⟩ | ⟨a, hp, m1, m2, m3, m4, m5, m6⟩ <;> subst hp
  ·repeat' (first
    | exact okt_ret good
    | (refine okt_f ?_ ?_; · (simp [s1, s2, s3, s6, hb0] <;> omega))
    | (refine okt_t ?_ ?_; · (simp [s1, s2, s3, s6, hb0] <;> omega))
    | (refine okt_f ?_ ?_; · (simp only [bne_eq_false_iff_eq]; apply s5 <;> first | rfl | assumption))
    | refine okt_ite (fun h => ?_) (fun h => ?_))
  ·have hmay := ref13_MayAsk_ok a (by have := (mayAsk_of m1).2.2.2.2.1; omega) (by have := (mayAsk_of m1).2.2.2.2.2.2.2.1; omega)
   have hsame := ref13_SameAsk_ok c'.Out.Ask a (by rw [m6]; have := (mayAsk_of m1).2.2.2.2.2.2.2.1; omega)
   repeat' (first
    | exact okt_ret good
    | refine okt_opt (x := a) rfl ?_
    | refine okt_opt hmay ?_
    | refine okt_opt hsame ?_
    | (refine okt_f ?_ ?_; · (simp only [bne_eq_false_iff_eq]; apply s5 <;> first | rfl | assumption))
    | (refine okt_f ?_ ?_; · (simp [s1, s2, s3, hb0, m1, m2, m3, m4, m5, m6, inR, sameAsk_refl] <;> omega))
    | (refine okt_t ?_ ?_; · (simp [s1, s2, s3, hb0, m1, m2, m3, m4, m5, m6, inR, sameAsk_refl] <;> omega))
    | refine okt_ite (fun h => ?_) (fun h => ?_))
 ·obtain ⟨g, hg⟩ := grow_do h hn s
  have sn := seen_of (q := true) h hn g (fun _ x _ => by rw [hg x])
  refine okt_opt (Do_ok (cli_lapse h).shape (by rw [h.files]; omega) s (by omega)) ?_
  have good := fin _ _ false g
  clear g hg
  revert sn good
  generalize doS c s = r
  obtain ⟨c', an, p⟩ := r
  intro sn good
  obtain ⟨s1, s2, s3, s4, s5⟩ := sn
  dsimp only at s1 s2 s3 s4 s5 good
  rcases s4 with ⟨hp, s6⟩ | ⟨a, hp, m1, m2, m3, m4, m5, m6⟩ <;> subst hp
  ·repeat' (first
    | exact okt_ret good
    | (refine okt_f ?_ ?_; · (simp [s1, s2, s3, s6, hb0] <;> omega))
    | (refine okt_t ?_ ?_; · (simp [s1, s2, s3, s6, hb0] <;> omega))
    | (refine okt_f ?_ ?_; · (simp only [bne_eq_false_iff_eq]; apply s5 <;> first | rfl | assumption))
    | refine okt_ite (fun h => ?_) (fun h => ?_))
  ·have hmay := ref13_MayAsk_ok a (by have := (mayAsk_of m1).2.2.2.2.1; omega) (by have := (mayAsk_of m1).2.2.2.2.2.2.2.1; omega)
   have hsame := ref13_SameAsk_ok c'.Out.Ask a (by rw [m6]; have := (mayAsk_of m1).2.2.2.2.2.2.2.1; omega)
   repeat' (first
    | exact okt_ret good
    | refine okt_opt (x := a) rfl ?_
    | refine okt_opt hmay ?_
    | refine okt_opt hsame ?_
    | (refine okt_f ?_ ?_; · (simp only [bne_eq_false_iff_eq]; apply s5 <;> first | rfl | assumption))
    | (refine okt_f ?_ ?_; · (simp [s1, s2, s3, hb0, m1, m2, m3, m4, m5, m6, inR, sameAsk_refl] <;> omega))
    | (refine okt_t ?_ ?_; · (simp [s1, s2, s3, hb0, m1, m2, m3, m4, m5, m6, inR, sameAsk_refl] <;> omega))
    | refine okt_ite (fun h => ?_) (fun h => ?_))
theorem law20_ClientOne_ok (l : List (List UInt8)) (who : UInt8) (hl : l.length ≤ 1048576 ∧ ∀ x ∈ l, x.length = 4) : law20_ClientOne fuel l who = some true := by
 unfold law20_ClientOne law20_ClientOne_t
 simp only [get_opt, get_ite, get_ret, get_altT, law20_begun_ok, some_bind, Bool.not_true, cond_false]
 by_cases hb : (l.length : Int) > 80
 ·rw [decide_eq_true hb]; rfl
 rw [decide_eq_false hb, cond_false]
 obtain ⟨a, b⟩ := tmod_lo who 3 (by decide) (by decide)
 have e : wi64 (1 + wi64 (i8 (b8 ((i8 who).tmod 3)))) = 1 + i8 (b8 ((i8 who).tmod 3)) := by rw [wi64_of (show -9223372036854775808 ≤ i8 (b8 ((i8 who).tmod 3)) by omega) (by omega), wi64_of (by omega) (by omega)]
 rw [e]
 unfold law20_ClientOne_l0
 obtain ⟨x, e, d, hx⟩ := iter_inv (step := law20_ClientOne_s0 fuel l) (fun k v => ∃ i : Nat, v.1 = (i : Int) ∧ i + k = l.length ∧ CliOk (i : Int) v.2 ∧ v.2.Now ≤ 20 * (i : Int)) (fun x => ∃ d, x = .inr (.inr d)) (fun k v hI => by
  obtain ⟨v1, v2⟩ := v
  obtain ⟨i, hi, hk, hc, hn⟩ := hI
  simp only at hi hc hn
  subst hi
  obtain ⟨r, e, hr⟩ := one_round l (by omega) hl.2 i v2 (by omega) hc hn
  refine ⟨r, e, ?_⟩
  cases r with
  | inl w => obtain ⟨h1, h2, h3, h4⟩ := hr; exact ⟨k - 1, by omega, i + 1, h2, by omega, h3, h4⟩
  | inr x => exact hr) l.length (0, client_New (1 + i8 (b8 ((i8 who).tmod 3)))) fuel ⟨0, rfl, by omega, new_ok (by omega) (by omega), Int.le_refl _⟩ (fuel_gt (by omega))
 rw [e, some_bind, hx]
 rfl
end Go.Proofs.YthabbcjjecpbmaaGreat.N

set_option maxRecDepth 100000
namespace Go.Proofs.YthabbcjjecpbmaaGreat
open Go Go.ChangeShapes Go.WideShapes Go.ChangeAt Go.RowKit
namespace Q3
open Go.Proofs.YthabbcjjecpbmaaGreat.D Go.Proofs.YthabbcjjecpbmaaGreat.Z
theorem bind_of {α β : Type} {t : Option α} {b : α} {f : α → Option β} {r : Option β} (h : t = some b) (hr : f b = r) : t.bind f = r := by rw [h]; exact hr
theorem law (xs : List (DVal E.T)) (h : ArgsOk E 1048576 [(.slice (.arr 4 (.int .u8))), (.int .u8)] xs) : ((x3.B Tryz.f3) xs []).get = some (.ret [.val .bool true], []) := by
 match xs, h with
 | [_, _], .cons _ _ x0 _ h0 (.cons _ _ x1 _ h1 .nil) => exact (F3 x0 x1).trans ((Tree.got_eq _).trans ((Tree.get_bind _ _).trans (bind_of (α := Bool) (N.law20_ClientOne_ok x0 x1 ⟨(h0 12).1, fun x hx => ((h0 12).2 x hx).1⟩) rfl)))
theorem contract (H : Type) (enc : TypeId × Value → H) (W : World) (base : Nat) (args : Array Value) (ds gs : List (DataW H)) (before : List MemPlace)
  (hval : ∀ (j : Nat) t v, Tryz.f3.params[j]? = some t → args[j]? = some v → Value.okWide Tryz.prog W .any base t v)
  (hW : DataW.Whole enc Tryz.prog Tryz.f3.params.toList Rows.clientOneSpec.vars false W args.toList ds gs before) (hk : ∀ d ∈ ds, Rows.uptoBulk d ≤ 1048576) :
  Calls Tryz.prog 3 args W fun e W' => ∃ v, e = .returned v ∧ Rows.clientOneSpec.post enc Tryz.prog Tryz.f3 false true false false W args v W' :=
 law_contract sound tl laid full meas bl (fn := Tryz.f3) (tb := 4) rfl Tryz.underlying4 (ps := [(.slice (.arr 4 (.int .u8))), (.int .u8)]) rfl
  (by
   have h : (Tryz.f3.params.toList.all fun t => Tryz.prog.readableRec t && decide (t < Tryz.prog.types.size)) = true := by kernel_rfl
   intro t ht
   have := List.all_eq_true.1 h t ht
   simpa using this) rfl
  (fun ds hd => by
   match ds, hd with
   | [x0, x1], _ => rfl)
  z3 law W base args ds gs before hval hW hk
theorem lifted (os : Os) (started : os.Started) (H : Type) (enc : TypeId × Value → H) (F : Stop.Interp) :
  ReturnsInHanded {} Tryz.checked os 3 .any ((Rows.OpenSpec.upto Rows.clientOneSpec).pre6 enc Tryz.prog Tryz.f3 Rows.clientOneUptoRow.domain false) (((Rows.OpenSpec.upto Rows.clientOneSpec).at F).post enc Tryz.prog Tryz.f3 false true false false) := by
 refine returnsInHanded_of_cond (C := Tryz.checked) (s := Rows.OpenSpec.upto Rows.clientOneSpec) (k := Rows.uptoSmall) rfl own started (by kernel_rfl) Tryz.func3
  (OpenSpec.witness (enc := enc) (C := Tryz.checked) (s := Rows.OpenSpec.upto Rows.clientOneSpec) (k := Rows.uptoSmall) rfl false ⟨#[], #[.slice none 0 0, .int .u8 0], []⟩ 8 (by kernel_rfl) (by kernel_rfl) (by kernel_rfl)
   (x := ([.nil, .lit (.int .u8 0)], [], [])) (by kernel_rfl) rfl (by kernel_rfl)) ?_
 intro W base args ds gs before hval hW _ hk _
 have hgs : gs = [] := by
  obtain ⟨p, q, hA, hV, _⟩ := hW
  cases gs with
  | nil => rfl
  | cons g gs => exact hV.elim
 subst hgs
 exact contract H enc W base args ds [] before hval hW (small hk)
theorem o1 : Tryz.pinned.checked.prog.funcNamed Rows.clientOneUptoRow.func = some 3 := by kernel_rfl
theorem o2 : joinedFacts Tryz.pinned.checked.prog 3 Tryz.f3 (Rows.OpenSpec.upto Rows.clientOneSpec).bare Rows.clientOneUptoRow = true := by kernel_rfl
theorem o3 : Tryz.f3.isInstance Tryz.pinned.checked.prog Rows.clientOneUptoRow.origin Rows.clientOneUptoRow.targs := of_decide_eq_true (by kernel_rfl)
theorem o4 : Tryz.f3.isWrapper Tryz.pinned.checked.prog Rows.clientOneUptoRow.wrapper Rows.clientOneUptoRow.mainSum := by unfold Func.isWrapper; first | (rw [if_pos (by decide +kernel)]; kernel_rfl) | (rw [if_neg (by decide +kernel)]; exact ⟨rfl, rfl⟩)
theorem over : Rows.clientOneUptoRow.holds Tryz.pinned (Rows.OpenSpec.upto Rows.clientOneSpec) :=
 OpenClaim.holds_of_cond 3 Tryz.f3 rfl rfl rfl rfl rfl rfl rfl ⟨rfl, rfl, rfl, rfl, rfl⟩ rfl rfl rfl rfl rfl o1 Tryz.func3 o2 o3 o4
  (fun os started H enc _ F => lifted os started H enc F)
end Q3
theorem clientOne_holds : Rows.ClientOneUptoSaid := Q3.over
end Go.Proofs.YthabbcjjecpbmaaGreat
