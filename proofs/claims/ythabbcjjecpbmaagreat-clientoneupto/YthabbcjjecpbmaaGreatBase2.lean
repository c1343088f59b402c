/- Loads and stores. Operations that leave the objects as they are. Equality, arithmetic, texts. Arithmetic, texts, conversions. Operations that make objects or change them: conversions, cuts, literals, make. Zero values, literals, make, append, cuts. Literals, make, append, cuts, new variables. Literals of rows, make, cuts. Cuts, make. Make, append. Append: what the machine does, whatever is appended. Append: what the evaluator says of it. -/
import Derived.Test.YthabbcjjecpbmaaGreatBase1
import Derived.Laws.BytesArg
import Derived.Laws.StructEq
import Derived.ChangeKeysEq
import Derived.Laws.IdiomStrings
import Derived.Deep.AppendSrc
import Derived.Laws.MakeOwn
import Derived.Laws.Slices
import Derived.Deep.Upon
set_option linter.unusedVariables false
set_option linter.unusedSimpArgs false
namespace Go.Proofs.YthabbcjjecpbmaaGreat.D
open Go
section
variable {P : Program} {E : Env} {w : World} {σ : Sg} {st : St E.T} {M : Nat → Prop}
theorem toV_cells {ty : Ty} {cs : List Value} (h1 : ∀ v ∈ cs, oneC v = true) (hs : isAggTy ty = false → cs.length = 1) : (toV ty cs).cells = cs.toArray := by
 unfold toV
 cases ha : isAggTy ty with
 | true => rfl
 | false =>
  obtain ⟨v, rfl⟩ := List.length_eq_one_iff.1 (hs ha)
  have := h1 v (by simp)
  cases v <;> first | (simp [oneC] at this; done) | rfl
theorem getO_ok (ok : EnvOk E) {ob : Obj E.T} {p : List Step} {v : DVal E.T} {b : Nat} {u : Value} (h : (getO E ob p).get = some v) (hn : v ≠ .undef) (hv : ObRep E σ st w M u ob) (hb : blk u = some b) :
  (∃ t c, VT E σ st w M t v c ∧ ∀ q x, c[q]? = some x → w.cell? ⟨b, E.pathOff p + q, none⟩ = some x) ∨
   (∃ x, p = [] ∧ single E v = true ∧ VRep E σ st w M v x ∧ w.cell? ⟨b, 0, none⟩ = some x) := by
 cases hv with
 | box ro d b' c el fr hh hf hc =>
  simp only [blk, Option.some.injEq] at hb
  subst hb
  simp only [getO] at h
  have hcell : ∀ (q : Nat) (x : Value), c[q]? = some x → w.cell? ⟨b', q, none⟩ = some x := fun q x hq => by simp [World.cell?, hh, hq]
  rcases hc with ⟨t, ht⟩ | ⟨hs, x, hx, ho, hr⟩
  ·obtain ⟨t', c', l, r, h1, h2, h3⟩ := getP_ok ok p h ht hn
   refine .inl ⟨t', c', h1, fun q x hq => hcell _ _ ?_⟩
   rw [← Array.getElem?_toList, h2, List.append_assoc, List.getElem?_append_right (by omega), h3, Nat.add_sub_cancel_left, List.getElem?_append_left (List.getElem?_eq_some_iff.1 hq).1]
   exact hq
  ·cases p with
   | nil =>
    cases h
    exact .inr ⟨x, rfl, single_of hs hn, hr, hcell 0 x (by rw [← Array.getElem?_toList, hx]; rfl)⟩
   | cons s p =>
    exfalso
    cases s with
    | fld i j =>
     simp only [getP] at h
     have : dfld E i j d = .undef := by cases d <;> first | rfl | cases hs
     rw [this] at h
     exact hn (getP_ok.getP_undef p h)
    | idx e n => cases d <;> first | (cases hs; done) | (cases h; done)
 | arr l e xs v hr =>
  cases p with
  | nil => cases h
  | cons s p =>
   cases s with
   | fld i j => cases h
   | idx e' n =>
    simp only [getO] at h
    obtain ⟨he, h⟩ := Tree.get_need h
    have := tyEqb_eq he; subst this
    simp only [Tree.get] at h
    obtain ⟨x, hx, h⟩ := Option.bind_eq_some_iff.1 h
    rcases hr.2 with ⟨⟨a, rfl⟩, _⟩ | ⟨g, cap, c, el, fr, cs, rfl, hc, hh, hz, hf, hl, hq, ho⟩
    ·rw [blk_nil] at hb; cases hb
    ·simp only [blk, Option.some.injEq] at hb
     subst hb
     obtain ⟨c1, l1, r1, h1, rfl, h3, _⟩ := LRep.split ok hl n x hx
     obtain ⟨t', c', l', r', h5, rfl, h6⟩ := getP_ok (σ := σ) (st := st) ok p h (.val e' x c1 h1) hn
     refine .inl ⟨t', c', h5, fun q y hy => ?_⟩
     have : c[E.pathOff (.idx e' n :: p) + q]? = some y := by
      refine hq _ y ?_
      have hlt := (List.getElem?_eq_some_iff.1 hy).1
      rw [show l1 ++ (l' ++ c' ++ r') ++ r1 = (l1 ++ l') ++ (c' ++ (r' ++ r1)) by simp, List.getElem?_append_right (by simp [Env.pathOff, Env.stepOff]; omega),
       List.getElem?_append_left (by simp [Env.pathOff, Env.stepOff]; omega)]
      rw [show E.pathOff (.idx e' n :: p) + q - (l1 ++ l').length = q by simp [Env.pathOff, Env.stepOff]; omega]
      exact hy
     simp [World.cell?, hh, this]
 | dead v => cases h
theorem single_fits {t : TypeId} {v : DVal E.T} (hf : fits E st t v = true) (hs : single E v = true) : E.tk t = .ptr ∨ E.tk t = .func ∨ E.tk t = .iface := by
 unfold fits at hf
 cases ht : E.tk t with
 | data ty => rw [ht] at hf; cases v <;> first | (cases hs; done) | (cases hf; done)
 | ptr => exact .inl rfl
 | func => exact .inr (.inl rfl)
 | iface => exact .inr (.inr rfl)
 | other => rw [ht] at hf; cases hf
theorem fits_kind {t : TypeId} {v : DVal E.T} (hf : fits E st t v = true) : (∃ ty, E.tk t = .data ty) ∨ single E v = true := by
 unfold fits at hf
 cases ht : E.tk t with
 | data ty => exact .inl ⟨ty, rfl⟩
 | ptr => rw [ht] at hf; exact .inr hf
 | func => rw [ht] at hf; exact .inr hf
 | iface => rw [ht] at hf; exact .inr hf
 | other => rw [ht] at hf; cases hf
theorem not_undef {t : TypeId} {v : DVal E.T} (hf : fits E st t v = true) : v ≠ .undef := by
 rintro rfl
 unfold fits at hf
 cases ht : E.tk t <;> rw [ht] at hf <;> cases hf
theorem dload_ok (S : Sound P E) (hst : StRep E σ st w) {t : TypeId} {x v : DVal E.T} {u : Value} (h : (dload E st t x).get = some v) (hx : VRep E σ st w (MB σ st) x u) :
  ∃ y, (Instr.loadAt t u).run P w = .ok y w ∧ VRep E σ st w (MB σ st) v y := by
 cases x with
 | ptr o p =>
  simp only [dload] at h
  split at h
  ·rename_i ob hob
   obtain ⟨v', h1, h2⟩ := Tree.get_bind_some h
   obtain ⟨hf, h3⟩ := Tree.get_need h2
   cases h3
   cases hx with
   | data t' d cs hv => cases hv
   | ptr o p b hb hlt =>
    have hr := hst.obj o ob hob
    have hun := not_undef hf
    rcases getO_ok S.toEnvOk h1 hun hr hb with ⟨t', c, hv, hc⟩ | ⟨y, rfl, hs, hv, hc⟩
    ·rcases fits_kind hf with ⟨ty, ht⟩ | hs
     ·have hfd : fitsD E st ty v = true := by unfold fits at hf; rw [ht] at hf; exact hf
      have hv' := fitsD_VT hv hfd
      refine ⟨toV ty c, ?_, .data ty v c hv'⟩
      have := run_loadVar_data S ht b (E.pathOff p) c (VT.len S.toEnvOk hv') hc size_one
      simp [Instr.loadAt, Instr.sureAddr, this]
     ·exfalso; cases hv <;> cases hs
    ·have hk := single_fits hf hs
     refine ⟨y, ?_, hv⟩
     have hag := run_isAgg_single S hk w
     simp [Instr.loadAt, Instr.sureAddr, loadVar, hag, Env.pathOff, run_load, hc]
  ·cases h
 | rptr t' y =>
  simp only [dload] at h
  split at h
  ·rename_i ty ht
   obtain ⟨he, h2⟩ := Tree.get_need h
   cases h2
   have := tyEqb_eq he; subst this
   cases hx with
   | data t'' d cs hv => cases hv
   | rptr t'' y a cs hc hm =>
    obtain ⟨b, off, ha, hb, hlt, hq⟩ := hm
    cases ha
    refine ⟨toV t' cs, ?_, .data t' _ cs (.val t' y cs hc)⟩
    have := run_loadVar_data S ht b off cs (CRep.len S.toEnvOk hc) hq size_one
    simp [Instr.loadAt, Instr.sureAddr, this]
  ·cases h
 | _ => cases h
theorem placeTy_cons (s s' : Step) (p : List Step) : placeTy E (s :: s' :: p) = placeTy E (s' :: p) := by cases s <;> rfl
theorem setP_ok (ok : EnvOk E) {okf : DVal E.T → Bool} {v : DVal E.T} {ty : Ty} {cv : List Value} (hv : VT E σ st w M ty v cv) : ∀ (p : List Step) {d d' : DVal E.T} {t : Ty} {cs : List Value}, p ≠ [] →
  placeTy E p = some ty → (setP E okf v p d).get = some d' → VT E σ st w M t d cs → ∃ l c r, cs = l ++ c ++ r ∧ l.length = E.pathOff p ∧ c.length = cv.length ∧ VT E σ st w M t d' (l ++ cv ++ r)
 | [], _, _, _, _, hne, _, _, _ => absurd rfl hne
 | .fld i j :: p, d, d', t, cs, _, hp, h, hd => by
  simp only [setP] at h
  split at h
  ·rename_i i' fs he
   obtain ⟨hb, h⟩ := Tree.get_need h
   rw [Bool.and_eq_true] at hb
   have hi := Nat.eq_of_beq_eq_true hb.1; subst hi
   have hj : j < fs.length := by have := hb.2; rw [Nat.blt_eq] at this; exact this
   obtain ⟨rfl, hs⟩ := explode_VT hd he
   obtain ⟨t1, c1, l1, r1, h1, h2, rfl, h4, h5⟩ := VTs.at ok hs j _ (nth_some (d := .undef) hj)
   obtain ⟨d1, h6, h7⟩ := Tree.get_bind_some h
   cases h7
   cases p with
   | nil =>
    simp only [setP] at h6
    obtain ⟨_, h6⟩ := Tree.get_need h6
    cases h6
    simp only [placeTy] at hp
    rw [h1] at hp; cases hp
    exact ⟨l1, c1, r1, rfl, by simp [Env.pathOff, Env.stepOff, Env.foff, h4], by rw [VT.len ok h2, VT.len ok hv], .agg i _ _ (h5 v cv hv)⟩
   | cons s p =>
    rw [placeTy_cons] at hp
    obtain ⟨l, c, r, rfl, hl, hc, hvt⟩ := setP_ok ok hv (s :: p) (by simp) hp h6 h2
    refine ⟨l1 ++ l, c, r ++ r1, by simp, by simp [Env.pathOff, Env.stepOff, Env.foff, h4, hl], hc, ?_⟩
    have := VT.agg i _ _ (h5 d1 _ hvt)
    simpa using this
  ·cases h
 | .idx e n :: p, d, d', t, cs, _, hp, h, hd => by
  cases hd with
  | val t x cs hc =>
   cases hc with
   | arr m e' xs cs hm hl =>
    simp only [setP] at h
    obtain ⟨he, h⟩ := Tree.get_need h
    have := tyEqb_eq he; subst this
    simp only [Tree.get] at h
    obtain ⟨x, hx, h⟩ := Option.bind_eq_some_iff.1 h
    obtain ⟨d1, h6, h7⟩ := Tree.get_bind_some h
    obtain ⟨y, h8, h9⟩ := Tree.get_bind_some h7
    rw [Tree.get_ofOpt] at h8
    cases h9
    obtain ⟨c1, l1, r1, h1, rfl, h3, h4⟩ := LRep.split ok hl n x hx
    cases p with
    | nil =>
     simp only [setP] at h6
     obtain ⟨_, h6⟩ := Tree.get_need h6
     cases h6
     simp only [placeTy, Option.some.injEq] at hp
     subst hp
     have hy := toData_nil ok depth h8 hv
     refine ⟨l1, c1, r1, rfl, by simp [Env.pathOff, Env.stepOff, h3], by rw [CRep.len ok h1, CRep.len ok hy], .val _ _ _ (.arr m e _ _ (by simp [hm]) (h4 y cv hy))⟩
    | cons s p =>
     rw [placeTy_cons] at hp
     obtain ⟨l, c, r, rfl, hl', hc', hvt⟩ := setP_ok ok hv (s :: p) (by simp) hp h6 (.val e x c1 h1)
     have hy := toData_nil ok depth h8 hvt
     refine ⟨l1 ++ l, c, r ++ r1, by simp, by simp [Env.pathOff, Env.stepOff, h3, hl'], hc', ?_⟩
     have := VT.val (σ := σ) (st := st) _ _ _ (.arr m e _ _ (by simp [hm]) (h4 y _ hy))
     simpa using this
   | bool b => cases h
   | int k x => cases h
   | str s hs => cases h
   | slice e xs a cap cs hl hm hn' hc => cases h
   | named i x cs hf => cases h
  | nils e a => cases h
  | own k l e xs hk => cases h
  | stale e v hs => cases h
  | agg i fs cs hs => cases h
theorem spl_mid {c : Array Value} {l m r vs : List Value} (h : c.toList = l ++ m ++ r) (hl : m.length = vs.length) : (spl c l.length vs).toList = l ++ vs ++ r := by
 have hsz : c.size = l.length + m.length + r.length := by rw [← Array.length_toList, h]; simp; omega
 apply List.ext_getElem?
 intro q
 rw [Array.getElem?_toList, spl_get _ _ _ _ (by omega)]
 by_cases h1 : l.length ≤ q ∧ q < l.length + vs.length
 ·rw [if_pos h1, List.append_assoc, List.getElem?_append_right h1.1, List.getElem?_append_left (by omega)]
 ·rw [if_neg h1, ← Array.getElem?_toList, h]
  rcases Nat.lt_or_ge q l.length with h2 | h2
  ·rw [List.append_assoc, List.getElem?_append_left h2, List.append_assoc, List.getElem?_append_left h2]
  ·rw [List.append_assoc, List.getElem?_append_right h2, List.getElem?_append_right (by omega), List.append_assoc, List.getElem?_append_right h2, List.getElem?_append_right (by omega), hl]
theorem single_one {v : DVal E.T} {u : Value} (hs : single E v = true) (h : VRep E σ st w M v u) : oneC u = true := by
 cases h with
 | data t d cs h => cases h <;> cases hs
 | undef v => cases hs
 | ptr o p b h hl => rfl
 | nilptr => rfl
 | rptr t x a cs h hm => rfl
 | tup vs us h => cases hs
 | fn f vs us h => rfl
 | nilfn => rfl
 | ifc t d v h => rfl
 | nilifc => rfl
theorem VT.not_single {t : Ty} {d : DVal E.T} {cs : List Value} (h : VT E σ st w M t d cs) : single E d = false := by cases h <;> rfl
theorem run_store_var (P : Program) {w : World} {t : TypeId} {b off : Nat} {u : Value} {cv : List Value} {i : TypeInfo} {c : Array Value} {el : TypeId} {fr : Nat × Nat} (hi : P.info? t = some i) (hs : i.size = cv.length)
  (hu : u.cells = cv.toArray) (h1 : ∀ v ∈ cv, oneC v = true) (hh : w.heap[b]? = some (.cells c el fr)) (hl : off + cv.length ≤ c.size)
  (hf : ∀ q, off ≤ q → q < off + cv.length → w.frozen? ⟨b, q, none⟩ = false) :
  (Instr.storeAt t (.pointer (some ⟨b, off, none⟩)) u).run P w = .ok () (putB w b (.cells (spl c off cv) el fr)) := by
 have hst := run_store_list P b off el fr cv 0 w c hh (by simpa using hl) h1 (by simpa using hf)
 simp only [Nat.add_zero] at hst
 simp [Instr.storeAt, Instr.sureAddr, storeVar, run_size hi, hu, hs, hst]
theorem frozen_put {w : World} {b : Nat} {c c' : Array Value} {el : TypeId} {fr : Nat × Nat} (hh : w.heap[b]? = some (.cells c el fr)) (q : Nat) : (putB w b (.cells c' el fr)).frozen? ⟨b, q, none⟩ = w.frozen? ⟨b, q, none⟩ := by
 have hb := (Array.getElem?_eq_some_iff.1 hh).1
 unfold World.frozen?
 simp only [putB_at hb, hh]
theorem kept_put (hst : StRep E σ st w) {o : Nat} {ob ob' : Obj E.T} (ho : nth? st o = some ob) (hm : mutable ob = true) (hm' : mutable ob' = true → mutable ob = true) {b : Nat} (hb : blk (σ o) = some b) (x : Go.Obj) :
  Kept (MB σ st) (MB σ (D.upd st o ob')) w (putB w b x) :=
 ⟨by rw [putB_size]; exact Nat.le_refl _, fun g hg hM => putB_ne (fun h => hM (.inr ⟨o, ob, ho, hm, by rw [← h]; exact hb⟩)), fun g _ h => MB_upd ho hm' h⟩
theorem same_upd {o : Nat} {ob ob' : Obj E.T} (ho : nth? st o = some ob) (ht : Turn ob ob') (k : Nat) : Same σ σ st (D.upd st o ob') k := by
 refine ⟨rfl, fun l e xs h => ?_, fun h => by rw [length_upd]; exact h⟩
 rw [nth?_upd]
 by_cases h' : o = k
 ·subst h'
  rw [ho] at h; cases h
  rw [if_pos ⟨rfl, nth?_lt ho⟩]
  cases ht with
  | arr l l' e xs xs' => exact ⟨l', xs', rfl⟩
 ·rw [if_neg (fun h => h' h.1)]; exact ⟨l, xs, h⟩
theorem placeTy_of {t : TypeId} {p : List Step} (h : placeOk E t p = true) (hp : p ≠ []) : ∃ ty, E.tk t = .data ty ∧ placeTy E p = some ty := by
 unfold placeOk at h
 split at h
 ·rename_i ty ty' h1 h2
  have := tyEqb_eq h; subst this
  exact ⟨_, h1, h2⟩
 ·cases p with
  | nil => exact absurd rfl hp
  | cons s p => cases h
theorem dstore_ok (S : Sound P E) (hst : StRep E σ st w) {st' : St E.T} {t : TypeId} {x v : DVal E.T} {u uv : Value} (h : (dstore E st t x v).get = some st') (hx : VRep E σ st w (MB σ st) x u) (hv : VRep E σ st w (MB σ st) v uv) :
  ∃ w', (Instr.storeAt t u uv).run P w = .ok () w' ∧ Mv σ σ st st' w w' := by
 cases x with
 | ptr o p =>
  simp only [dstore] at h
  split at h
  ·rename_i ob hob
   obtain ⟨hfp, h⟩ := Tree.get_need h
   rw [Bool.and_eq_true] at hfp
   obtain ⟨hf, hp⟩ := hfp
   obtain ⟨ob', hset, h⟩ := Tree.get_bind_some h
   cases h
   cases hx with
   | data t' d cs hv => cases hv
   | ptr o p b hb hlt =>
    have hr := hst.obj o ob hob
    cases ob with
    | dead => cases hset
    | box ro d0 =>
     cases ro with
     | true => cases hset
     | false =>
      simp only [setO] at hset
      obtain ⟨d', hd', hset⟩ := Tree.get_bind_some hset
      cases hset
      generalize hσ : σ o = s at hr hb
      cases hr with
      | box ro d b' c el fr hh hfz hc =>
       simp only [blk, Option.some.injEq] at hb
       subst hb
       have hbk : blk (σ o) = some b' := by rw [hσ]; rfl
       have key : ∃ (cv l m r : List Value) (i : TypeInfo), P.info? t = some i ∧ i.size = cv.length ∧ uv.cells = cv.toArray ∧ (∀ v ∈ cv, oneC v = true) ∧ c.toList = l ++ m ++ r ∧ l.length = E.pathOff p ∧ m.length = cv.length ∧
         ((∃ t, VT E σ st w (MB σ st) t d' (l ++ cv ++ r)) ∨ (sing E d' = true ∧ ∃ v, l ++ cv ++ r = [v] ∧ oneC v = true ∧ VRep E σ st w (MB σ st) d' v)) := by
        rcases fits_kind hf with ⟨ty, ht⟩ | hs
        ·obtain ⟨cv, hvt, rfl⟩ := fits_data ht hf hv
         obtain ⟨i, hi, hsz, _⟩ := (S.data t ty ht).info
         have hlen := VT.len S.toEnvOk hvt
         have hcells := toV_cells (ty := ty) (VT.one hst hvt) (fun ha => by rw [hlen]; exact size_one ha)
         by_cases hpe : p = []
         ·subst hpe
          simp only [setP] at hd'
          obtain ⟨hok, hd'⟩ := Tree.get_need hd'
          cases hd'
          have hok' : oldD E st ty d0 = true := by unfold fitsOld at hok; rw [ht] at hok; exact hok
          have hold : c.toList.length = cv.length := by
           rcases hc with ⟨t0, h0⟩ | ⟨hs0, _⟩
           ·rw [VT.len S.toEnvOk (oldD_VT h0 hok'), hlen]
           ·cases d0 <;> first | (cases hs0; done) | (cases hok'; done)
          exact ⟨cv, [], c.toList, [], i, hi, by rw [hsz, hlen], hcells, VT.one hst hvt, by simp, rfl, hold, .inl ⟨ty, by simpa using hvt⟩⟩
         ·obtain ⟨ty', ht', hpt⟩ := placeTy_of hp hpe
          rw [ht] at ht'; cases ht'
          rcases hc with ⟨t0, h0⟩ | ⟨hs0, _⟩
          ·obtain ⟨l, m, r, h1, h2, h3, h4⟩ := setP_ok S.toEnvOk hvt p hpe hpt hd' h0
           exact ⟨cv, l, m, r, i, hi, by rw [hsz, hlen], hcells, VT.one hst hvt, h1, h2, h3, .inl ⟨t0, h4⟩⟩
          ·exfalso
           cases p with
           | nil => exact hpe rfl
           | cons s p =>
            cases s with
            | fld i j => cases d0 <;> first | (cases hs0; done) | (cases hd'; done)
            | idx e n => cases d0 <;> first | (cases hs0; done) | (cases hd'; done)
        ·have hk := single_fits hf hs
         have hpe : p = [] := by
          cases p with
          | nil => rfl
          | cons s p =>
           obtain ⟨ty, ht, _⟩ := placeTy_of hp (by simp)
           rw [ht] at hk
           rcases hk with hk | hk | hk <;> cases hk
         subst hpe
         simp only [setP] at hd'
         obtain ⟨hok, hd'⟩ := Tree.get_need hd'
         cases hd'
         have hs0 : single E d0 = true := by
          unfold fitsOld at hok
          rcases hk with hk | hk | hk <;> (rw [hk] at hok; exact hok)
         have ho := single_one hs hv
         have hold : c.toList.length = 1 := by
          rcases hc with ⟨t0, h0⟩ | ⟨_, x, hx, _⟩
          ·rw [h0.not_single] at hs0; cases hs0
          ·rw [hx]; rfl
         obtain ⟨i, hi, hsz⟩ : ∃ i, P.info? t = some i ∧ i.size = 1 := by
          rcases hk with hk | hk | hk
          ·obtain ⟨_, i, hi, hsz, _⟩ := S.ptr t hk; exact ⟨i, hi, hsz⟩
          ·obtain ⟨_, i, hi, hsz, _⟩ := S.func t hk; exact ⟨i, hi, hsz⟩
          ·obtain ⟨_, i, hi, hsz, _⟩ := S.iface t hk; exact ⟨i, hi, hsz⟩
         refine ⟨[uv], [], c.toList, [], i, hi, hsz, ?_, by simpa using ho, by simp, rfl, hold, .inr ⟨sing_of hs, uv, rfl, ho, hv⟩⟩
         cases uv <;> first | (simp [oneC] at ho; done) | rfl
       obtain ⟨cv, l, m, r, i, hi, hsz, hcells, h1, hlc, hpo, hml, hnew⟩ := key
       have hcs : c.size = l.length + m.length + r.length := by rw [← Array.length_toList, hlc]; simp; omega
       have hrun := run_store_var P hi hsz hcells h1 hh (off := E.pathOff p) (by omega) (fun q _ _ => hfz q)
       refine ⟨_, hrun, Mv.upd hst hob (.box false false d0 d') (fun _ => rfl) (fun _ => rfl) _ rfl rfl rfl putB_size (fun g hg => putB_ne (fun h => hg rfl (by rw [hbk, h]))) ?_⟩
       have hkp := kept_put (ob' := .box false d') hst hob rfl (fun _ => rfl) hbk (.cells (spl c (E.pathOff p) cv) el fr)
       rw [hσ]
       have hbz := (Array.getElem?_eq_some_iff.1 hh).1
       have hspl : (spl c (E.pathOff p) cv).toList = l ++ cv ++ r := by rw [← hpo]; exact spl_mid hlc hml
       refine .box false d' b' _ el fr (putB_at hbz) (fun q => by rw [frozen_put hh]; exact hfz q) ?_
       rw [hspl]
       rcases hnew with ⟨t0, h0⟩ | ⟨hs, v, hv1, ho, hv2⟩
       ·exact .inl ⟨t0, VT.keep hkp h0 (fun k _ => same_upd hob (.box false false d0 d') k)⟩
       ·exact .inr ⟨hs, v, hv1, ho, VRep.keep hkp hv2 (fun k _ => same_upd hob (.box false false d0 d') k)⟩
    | arr l0 e xs =>
      cases p with
      | nil => cases hset
      | cons s p =>
       cases s with
       | fld i j => cases hset
       | idx e' n =>
        simp only [setO] at hset
        obtain ⟨hme, hset⟩ := Tree.get_need hset
        rw [Bool.and_eq_true] at hme
        obtain ⟨hmay, he⟩ := hme
        have := tyEqb_eq he; subst this
        simp only [Tree.get] at hset
        obtain ⟨x, hx, hset⟩ := Option.bind_eq_some_iff.1 hset
        obtain ⟨d1, h6, hset⟩ := Tree.get_bind_some hset
        obtain ⟨y, h8, hset⟩ := Tree.get_bind_some hset
        rw [Tree.get_ofOpt] at h8
        cases hset
        obtain ⟨ty, ht, hpt⟩ := placeTy_of hp (by simp)
        obtain ⟨cv, hvt, rfl⟩ := fits_data ht hf hv
        obtain ⟨i, hi, hsz, _⟩ := (S.data t ty ht).info
        have hlen := VT.len S.toEnvOk hvt
        have hcells := toV_cells (ty := ty) (VT.one hst hvt) (fun ha => by rw [hlen]; exact size_one ha)
        generalize hσ : σ o = s at hr hb
        cases hr with
        | arr l e xs _ hown =>
         rcases hown.2 with ⟨⟨a, rfl⟩, _⟩ | ⟨g, cap, c, el, fr, cs, rfl, hcap, hh, hz, hfz, hl, hq, ho⟩
         ·rw [blk_nil] at hb; cases hb
         ·simp only [blk, Option.some.injEq] at hb
          subst hb
          have hbk : blk (σ o) = some g := by rw [hσ]; rfl
          obtain ⟨c1, l1, r1, h1, rfl, h3, h4⟩ := LRep.split S.toEnvOk hl n x hx
          have key : ∃ l m r, c1 = l ++ m ++ r ∧ l.length = E.pathOff p ∧ m.length = cv.length ∧ CRep E w (MB σ st) e' y (l ++ cv ++ r) := by
           cases p with
           | nil =>
            simp only [setP] at h6
            obtain ⟨_, h6⟩ := Tree.get_need h6
            cases h6
            simp only [placeTy, Option.some.injEq] at hpt
            subst hpt
            have hy := toData_nil S.toEnvOk depth h8 hvt
            exact ⟨[], c1, [], by simp, rfl, by rw [CRep.len S.toEnvOk h1, CRep.len S.toEnvOk hy], by simpa using hy⟩
           | cons s p =>
            rw [placeTy_cons] at hpt
            obtain ⟨l, m, r, e1, e2, e3, e4⟩ := setP_ok S.toEnvOk hvt (s :: p) (by simp) hpt h6 (.val e' x c1 h1)
            exact ⟨l, m, r, e1, e2, e3, toData_nil S.toEnvOk depth h8 e4⟩
          obtain ⟨l, m, r, rfl, hpo, hml, hy⟩ := key
          have hlen' := LRep.len S.toEnvOk hl
          have hnx : n < xs.length := (List.getElem?_eq_some_iff.1 hx).1
          have hcapsz : (l1 ++ (l ++ m ++ r) ++ r1).length ≤ (cap + 1) * E.size e' := by rw [hlen']; exact Nat.mul_le_mul_right _ hcap
          have hoff : E.pathOff (.idx e' n :: p) = (l1 ++ l).length := by simp [Env.pathOff, Env.stepOff, h3, hpo]
          have hrun := run_store_var P hi (by rw [hsz, hlen]) hcells (VT.one hst hvt) hh (off := E.pathOff (.idx e' n :: p)) (by rw [hoff]; simp at hcapsz ⊢; omega)
           (fun q h1 h2 => hfz q (by rw [hoff] at h2; simp at hcapsz h2; omega))
          refine ⟨_, hrun, Mv.upd hst hob (.arr l0 l0 e' xs (xs.set n y)) (fun h => h) (fun h => h) _ rfl rfl rfl putB_size (fun g' hg => putB_ne (fun h => hg hmay (by rw [hbk, h]))) ?_⟩
          have hkp := kept_put (ob' := .arr l0 e' (xs.set n y)) hst hob hmay (fun h => h) hbk (.cells (spl c (E.pathOff (.idx e' n :: p)) cv) el fr)
          rw [hσ]
          have hbz := (Array.getElem?_eq_some_iff.1 hh).1
          refine .arr l0 e' _ _ ⟨by simpa using hown.1, .inr ⟨g, cap, _, el, fr, l1 ++ (l ++ cv ++ r) ++ r1, by simp, by simpa using hcap, putB_at hbz, by rw [spl_size]; exact hz, fun q hq' => by rw [frozen_put hh]; exact hfz q hq',
           LRep.keep hkp (h4 y _ hy), fun q u hu => ?_, ho⟩⟩
          rw [spl_get _ _ _ _ (by rw [hoff]; simp at hcapsz ⊢; omega), hoff]
          by_cases hin : (l1 ++ l).length ≤ q ∧ q < (l1 ++ l).length + cv.length
          ·rw [if_pos hin]
           rw [show l1 ++ (l ++ cv ++ r) ++ r1 = (l1 ++ l) ++ (cv ++ (r ++ r1)) by simp, List.getElem?_append_right hin.1, List.getElem?_append_left (by omega)] at hu
           exact hu
          ·rw [if_neg hin]
           refine hq q u ?_
           rw [show l1 ++ (l ++ cv ++ r) ++ r1 = (l1 ++ l) ++ (cv ++ (r ++ r1)) by simp] at hu
           rw [show l1 ++ (l ++ m ++ r) ++ r1 = (l1 ++ l) ++ (m ++ (r ++ r1)) by simp]
           rcases Nat.lt_or_ge q (l1 ++ l).length with h9 | h9
           ·rw [List.getElem?_append_left h9] at hu ⊢; exact hu
           ·rw [List.getElem?_append_right h9] at hu ⊢
            rw [List.getElem?_append_right (by omega)] at hu ⊢
            rw [hml]; exact hu
  ·cases h
 | _ => cases h
end
open Go
section
variable {P : Program} {E : Env} {w : World} {σ : Sg} {st : St E.T} {M : Nat → Prop}
theorem isTy_eq {t : TypeId} {ty : Ty} (h : isTy E t ty = true) : E.tk t = .data ty := by
 unfold isTy at h
 split at h
 ·rename_i ty' ht
  have := tyEqb_eq h; subst this; exact ht
 ·cases h
theorem pathOff_snoc (p : List Step) (s : Step) : E.pathOff (p ++ [s]) = E.pathOff p + E.stepOff s := by
 induction p with
 | nil => simp [Env.pathOff]
 | cons x r ih => simp [Env.pathOff, ih]; omega
theorem valRep {t : Ty} {x : I E.T t} {u : Value} (h : VRep E σ st w M (.val t x) u) : ∃ cs, CRep E w M t x cs ∧ u = toV t cs := by
 cases h with
 | data t' d cs h =>
  cases h with
  | val t x cs h => exact ⟨cs, h, rfl⟩
theorem intRep {k : IntKind} {x : IntT k} {u : Value} (h : VRep E σ st w M (.val (.int k) x) u) : u = .int k (toI k x) := by
 obtain ⟨cs, hc, rfl⟩ := valRep h
 cases hc; rfl
theorem boolRep {b : Bool} {u : Value} (h : VRep E σ st w M (.val .bool b) u) : u = .bool b := by
 obtain ⟨cs, hc, rfl⟩ := valRep h
 cases hc; rfl
theorem strRep {s : List UInt8} {u : Value} (h : VRep E σ st w M (.val .str s) u) : ∃ b : ByteArray, u = .string b ∧ b.data.toList = s ∧ b.size ≤ lim := by
 obtain ⟨cs, hc, rfl⟩ := valRep h
 cases hc with
 | str b hb => exact ⟨b, rfl, rfl, hb⟩
theorem sliceRep {e : Ty} {xs : List (I E.T e)} {u : Value} (h : VRep E σ st w M (.val (.slice e) xs) u) :
  ∃ a cap cs, u = .slice a xs.length cap ∧ LRep E w M e xs cs ∧ (xs = [] ∨ Mem w M a cs) ∧ xs.length ≤ lim ∧ xs.length ≤ cap := by
 obtain ⟨cs, hc, rfl⟩ := valRep h
 cases hc with
 | slice e xs a cap cs hl hm hn hc => exact ⟨a, cap, cs, rfl, hl, hm, hn, hc⟩
theorem arrRep {n : Nat} {e : Ty} {xs : List (I E.T e)} {u : Value} (h : VRep E σ st w M (.val (.arr n e) xs) u) : ∃ cs : List Value, u = .agg cs.toArray ∧ xs.length = n ∧ LRep E w M e xs cs := by
 obtain ⟨cs, hc, rfl⟩ := valRep h
 cases hc with
 | arr n e xs cs hn hl => exact ⟨cs, rfl, hn, hl⟩
theorem nilsRep {u : Value} (h : VRep E σ st w M .nils u) : ∃ a, u = .slice a 0 0 := by
 cases h with
 | data t d cs h =>
  cases h with
  | nils e a => exact ⟨a, rfl⟩
theorem ownRep {k : Nat} {u : Value} (h : VRep E σ st w M (.own k) u) : u = σ k := by
 cases h with
 | data t d cs h =>
  cases h with
  | own k l e xs h => rfl
theorem mkInt (k : IntKind) (x : IntT k) : VRep E σ st w M (.val (.int k) x) (.int k (toI k x)) := .data (.int k) _ _ (.val _ x _ (.int k x))
theorem mkBool (b : Bool) : VRep E σ st w M (.val .bool b) (.bool b) := .data .bool _ _ (.val _ b _ (.bool b))
theorem mkStr (b : ByteArray) (h : b.size ≤ lim) : VRep E σ st w M (.val .str b.data.toList) (.string b) := .data .str _ _ (.val _ _ _ (.str b h))
theorem mkStr' (s : List UInt8) (h : s.length ≤ lim) : VRep E σ st w M (.val .str s) (.string ⟨s.toArray⟩) := by
 have := mkStr (E := E) (σ := σ) (st := st) (w := w) (M := M) ⟨s.toArray⟩ (by simpa [ByteArray.size] using h)
 simpa using this
theorem toI_ofI (k : IntKind) (n : Int) (h : k = .u8 → 0 ≤ n ∧ n < 256) : toI k (ofI k n) = n := by
 cases k <;> first | rfl | skip
 obtain ⟨h0, h1⟩ := h rfl
 simp only [toI, ofI]
 have : n.toNat < 256 := by omega
 simp [UInt8.toNat_ofNat', Nat.mod_eq_of_lt this]
 omega
theorem wrap_u8 (n : Int) : 0 ≤ IntKind.u8.wrap n ∧ IntKind.u8.wrap n < 256 := by
 simp only [IntKind.wrap, IntKind.signed, IntKind.bits, Bool.false_and]
 constructor
 ·simp; omega
 ·simp; omega
theorem toI_wrap (k : IntKind) (n : Int) : toI k (ofI k (k.wrap n)) = k.wrap n := toI_ofI k _ fun h => by subst h; exact wrap_u8 n
theorem toI_u8_range (x : IntT .u8) : 0 ≤ toI .u8 x ∧ toI .u8 x < 256 := by
 have := UInt8.toNat_lt x
 simp only [toI]; omega
theorem mkW (k : IntKind) (n : Int) : VRep E σ st w M (.val (.int k) (ofI k (k.wrap n))) (.int k (k.wrap n)) := by
 have := mkInt (E := E) (σ := σ) (st := st) (w := w) (M := M) k (ofI k (k.wrap n))
 rwa [toI_wrap] at this
theorem dfieldAddr_ok (S : Sound P E) {t : TypeId} {x v : DVal E.T} {j : Nat} {u : Value} (h : (dfieldAddr E t x j).get = some v) (hx : VRep E σ st w M x u) :
  ∃ y, (Instr.fieldAt t u j).run P w = .ok y w ∧ VRep E σ st w M v y := by
 unfold dfieldAddr at h
 split at h
 ·rename_i i ht
  obtain ⟨hj, h⟩ := Tree.get_need h
  rw [Nat.blt_eq] at hj
  obtain ⟨fs, hu, hsz, hfs⟩ := (S.data t _ ht).desc
  obtain ⟨f, hf⟩ : ∃ f, fs[j]? = some f := ⟨fs[j]'(by omega), Array.getElem?_eq_getElem _⟩
  obtain ⟨ty, h1, h2, h3, h4, _⟩ := hfs j f hf
  obtain ⟨inf, hi, hsi, _⟩ := (S.data _ _ h2).info
  cases x with
  | ptr o p =>
   cases h
   cases hx with
   | data t' d cs hv => cases hv
   | ptr o p b hb hl =>
    refine ⟨.pointer (some ⟨b, E.pathOff (p ++ [.fld i j]), none⟩), ?_, .ptr o _ b hb hl⟩
    simp [Instr.fieldAt, run_under hu, hf, Instr.sureAddr, fieldPlace, run_size hi, hsi, h4, addr_add, pathOff_snoc, Env.stepOff, h3]
  | rptr ty0 y =>
   cases ty0 with
   | named i' =>
   obtain ⟨hii, h⟩ := Tree.get_need h
   have := Nat.eq_of_beq_eq_true hii; subst this
   split at h
   ·rename_i t' z hz
    cases h
    cases hx with
    | data t'' d cs hv => cases hv
    | rptr t'' y a cs hc hm =>
     obtain ⟨b, off, ha, hb, hlt, hq⟩ := hm
     cases ha
     have hvts : VTs E σ st w M (E.fields i) (parts E i y) cs := by
      cases hc with
      | named i y cs hf => exact VTs.ofF hf
     have hlen : j < (parts E i y).length := by
      rcases Nat.lt_or_ge j (parts E i y).length with h | h
      ·exact h
      ·rw [nth_eq, List.getD_eq_getElem?_getD, List.getElem?_eq_none h] at hz; cases hz
     obtain ⟨t1, c, l, r, g1, g2, rfl, g4, _⟩ := VTs.at S.toEnvOk hvts j _ (nth_some (d := .undef) hlen)
     rw [hz] at g2
     cases g2 with
     | val t1 z c g2 =>
      rw [h1] at g1; cases g1
      refine ⟨.pointer (some ⟨b, off + E.foff i j, none⟩), ?_, .rptr _ z _ c g2 ⟨b, off + E.foff i j, rfl, hb, hlt, fun q x hx => ?_⟩⟩
      ·simp [Instr.fieldAt, run_under hu, hf, Instr.sureAddr, fieldPlace, run_size hi, hsi, h4, addr_add, h3]
      ·have hlc := (List.getElem?_eq_some_iff.1 hx).1
       have := hq (E.foff i j + q) x (by
        rw [show E.foff i j = l.length from g4.symm, List.append_assoc, List.getElem?_append_right (by omega), Nat.add_sub_cancel_left, List.getElem?_append_left hlc]; exact hx)
       rw [Nat.add_assoc]; exact this
   ·cases h
   | bool => cases h
   | int k => cases h
   | str => cases h
   | slice e => cases h
   | arr n e => cases h
  | val t x => cases h
  | nils => cases h
  | own k => cases h
  | nilptr => cases h
  | agg i fs => cases h
  | tup vs => cases h
  | fn f cap => cases h
  | nilfn => cases h
  | ifc t v => cases h
  | nilifc => cases h
  | stale e => cases h
  | undef => cases h
 ·cases h
theorem inRange_iff {i : Int} {n : Nat} : inRange i n = true ↔ 0 ≤ i ∧ i < n := by simp [inRange]
theorem ite_get {α : Type} {c : Bool} {t : Tree α} {a : α} (h : (Tree.ite c t .fail).get = some a) : c = true ∧ t.get = some a := by
 cases c with
 | true => exact ⟨rfl, h⟩
 | false => cases h
theorem elem_size (S : Sound P E) {te : TypeId} {e : Ty} (h : E.tk te = .data e) (w : World) : (sizeOf te).run P w = .ok (E.size e) w := by
 obtain ⟨inf, hi, hsi, _⟩ := (S.data _ _ h).info
 rw [run_size hi, hsi]
theorem mem_elem (ok : EnvOk E) {e : Ty} {xs : List (I E.T e)} {cs : List Value} {b off i : Nat} {y : I E.T e} (hl : LRep E w M e xs cs) (hb : ¬ M b) (hlt : b < w.heap.size)
  (hq : ∀ q v, cs[q]? = some v → w.cell? ⟨b, off + q, none⟩ = some v) (hy : xs[i]? = some y) : VRep E σ st w M (.rptr e y) (.pointer (some ⟨b, off + i * E.size e, none⟩)) := by
 obtain ⟨c, hc, hcq⟩ := LRep.at ok hl i y hy
 exact .rptr e y _ c hc ⟨b, off + i * E.size e, rfl, hb, hlt, fun q v hv => by rw [Nat.add_assoc]; exact hq _ v (hcq q v hv)⟩
theorem dindexAddr_ok (S : Sound P E) (hst : StRep E σ st w) {t : TypeId} {x i v : DVal E.T} {u ui : Value} (h : (dindexAddr E st t x i).get = some v) (hx : VRep E σ st w (MB σ st) x u) (hi : VRep E σ st w (MB σ st) i ui) :
  ∃ y, (Instr.indexAt t u ui).run P w = .ok y w ∧ VRep E σ st w (MB σ st) v y := by
 unfold dindexAddr at h
 split at h
 ·rename_i k a
  have := intRep hi; subst this
  split at h
  ·rename_i e xs
   obtain ⟨ht, h⟩ := Tree.get_need h
   have ht := isTy_eq ht
   obtain ⟨hr, h⟩ := ite_get h
   rw [inRange_iff] at hr
   simp only [Tree.get] at h
   obtain ⟨y, hy, h⟩ := Option.bind_eq_some_iff.1 h
   cases h
   obtain ⟨te, hu, hte⟩ := (S.data t _ ht).desc
   obtain ⟨ad, cap, cs, rfl, hl, hm, _, _⟩ := sliceRep hx
   have hne : xs ≠ [] := by rintro rfl; simp at hy
   obtain ⟨b, off, rfl, hb, hlt, hq⟩ := hm.resolve_left hne
   refine ⟨.pointer (some ⟨b, off + (toI k a).toNat * E.size e, none⟩), ?_, mem_elem S.toEnvOk hl hb hlt hq hy⟩
   simp [Instr.indexAt, asIntOf, run_under hu, hr.1, hr.2, elem_size S hte, addr_add]
  ·rename_i o
   split at h
   ·rename_i l e xs ho
    obtain ⟨ht, h⟩ := Tree.get_need h
    have ht := isTy_eq ht
    obtain ⟨hr, h⟩ := ite_get h
    rw [inRange_iff] at hr
    cases h
    obtain ⟨te, hu, hte⟩ := (S.data t _ ht).desc
    have := ownRep hx; subst this
    have hob := hst.obj o _ ho
    generalize hσ : σ o = s at hob
    cases hob with
    | arr l e xs _ hown =>
     rcases hown.2 with ⟨⟨a, rfl⟩, rfl⟩ | ⟨g, cap, c, el, fr, cs, rfl, hcap, hh, hz, hfz, hl, hq, hord⟩
     ·simp at hr; omega
     ·refine ⟨.pointer (some ⟨g, (toI k a).toNat * E.size e, none⟩), ?_, ?_⟩
      ·simp [Instr.indexAt, asIntOf, run_under hu, hr.1, hr.2, elem_size S hte, addr_add]
      ·have := VRep.ptr (E := E) (σ := σ) (st := st) (w := w) (M := MB σ st) o [.idx e (toI k a).toNat] g (by rw [hσ]; rfl) (nth?_lt ho)
       simpa [Env.pathOff, Env.stepOff] using this
   ·cases h
  ·rename_i o p
   split at h
   ·rename_i n e ht
    obtain ⟨hr, h⟩ := ite_get h
    rw [inRange_iff] at hr
    cases h
    obtain ⟨te, hu, hte⟩ := (S.data t _ ht).desc
    cases hx with
    | data t' d cs hv => cases hv
    | ptr o p b hb hl =>
     refine ⟨.pointer (some ⟨b, E.pathOff (p ++ [.idx e (toI k a).toNat]), none⟩), ?_, .ptr o _ b hb hl⟩
     simp [Instr.indexAt, asIntOf, run_under hu, hr.1, hr.2, elem_size S hte, addr_add, Instr.sureAddr, pathOff_snoc, Env.stepOff]
   ·cases h
  ·rename_i n e xs
   split at h
   ·rename_i n' e' ht
    obtain ⟨hte', h2⟩ := Tree.get_need h
    have hee := tyEqb_eq hte'
    clear h
    obtain ⟨hr, h3⟩ := ite_get h2
    clear h2
    rw [inRange_iff] at hr
    simp only [Tree.get] at h3
    obtain ⟨y, hy, h4⟩ := Option.bind_eq_some_iff.1 h3
    cases h4
    cases hee
    obtain ⟨te, hu, hte⟩ := (S.data t _ ht).desc
    cases hx with
    | data t'' d cs hv => cases hv
    | rptr t'' x a' cs hc hm =>
     obtain ⟨b, off, ha, hb, hlt, hq⟩ := hm
     cases ha
     cases hc with
     | arr n e xs cs hn hl =>
      refine ⟨.pointer (some ⟨b, off + (toI k a).toNat * E.size e, none⟩), ?_, mem_elem S.toEnvOk hl hb hlt hq hy⟩
      simp [Instr.indexAt, asIntOf, run_under hu, hr.1, hr.2, elem_size S hte, addr_add, Instr.sureAddr]
   ·cases h
  ·cases h
 ·cases h
theorem dlen_ok (S : Sound P E) (hst : StRep E σ st w) {t : TypeId} {x v : DVal E.T} {u : Value} {ty : TypeId} {ts : Array TypeId} (hts : ts[0]? = some t) (h : (dlen E st t x).get = some v) (hx : VRep E σ st w (MB σ st) x u) :
  ∃ y, (Builtin.len_ ts ty #[u]).run P w = .ok y w ∧ VRep E σ st w (MB σ st) v y := by
 unfold dlen at h
 split at h
 ·rename_i s ht
  cases h
  obtain ⟨b, rfl, rfl, hb⟩ := strRep hx
  have hu : P.underlying t = some .string := (S.data t _ ht).desc
  refine ⟨.int .i64 b.size, ?_, ?_⟩
  ·simp [Builtin.len_, hts, run_under hu, goInt]
  ·have := mkInt (E := E) (σ := σ) (st := st) (w := w) (M := MB σ st) .i64 (b.data.toList.length : Int)
   rw [Array.length_toList] at this ⊢
   exact this
 ·rename_i e e' xs ht
  cases h
  obtain ⟨te, hu, hte⟩ := (S.data t _ ht).desc
  obtain ⟨ad, cap, cs, rfl, hl, hm, _, _⟩ := sliceRep hx
  exact ⟨.int .i64 xs.length, by simp [Builtin.len_, hts, run_under hu, goInt], mkInt .i64 (xs.length : Int)⟩
 ·rename_i e ht
  cases h
  obtain ⟨te, hu, hte⟩ := (S.data t _ ht).desc
  obtain ⟨a, rfl⟩ := nilsRep hx
  exact ⟨.int .i64 0, by simp [Builtin.len_, hts, run_under hu, goInt], mkInt .i64 (0 : Int)⟩
 ·rename_i e k ht
  split at h
  ·rename_i l e' xs ho
   cases h
   obtain ⟨te, hu, hte⟩ := (S.data t _ ht).desc
   have := ownRep hx; subst this
   have hob := hst.obj k _ ho
   generalize σ k = s at hob hx
   cases hob with
   | arr l e xs _ hown =>
    rcases hown.2 with ⟨⟨a, rfl⟩, rfl⟩ | ⟨g, cap, c, el, fr, cs, rfl, _⟩
    ·exact ⟨.int .i64 0, by simp [Builtin.len_, hts, run_under hu, goInt], mkInt .i64 (0 : Int)⟩
    ·exact ⟨.int .i64 xs.length, by simp [Builtin.len_, hts, run_under hu, goInt], mkInt .i64 (xs.length : Int)⟩
  ·cases h
 ·cases h
end
open Go
noncomputable section
section
variable {P : Program} {E : Env} {w : World} {σ : Sg} {st : St E.T} {M : Nat → Prop}
theorem toData_ty {t : Ty} {x : I E.T t} {d : DVal E.T} {cs : List Value} {t' : Ty} (h : VT E σ st w M t' d cs) (n : Nat) (hx : toData E st n t d = some x) : VT E σ st w M t d cs := by
 cases n with
 | zero => cases hx
 | succ n =>
  cases h with
  | val t' y cs hc =>
   simp only [toData] at hx
   split at hx
   ·rename_i p _
    cases p with | up p =>
    subst p; exact .val _ y cs hc
   ·cases hx
  | nils e a =>
   cases t with
   | slice e' => exact .nils e' a
   | _ => simp [toData] at hx
  | own k l e xs hk =>
   simp only [toData, hk] at hx
   split at hx
   ·rename_i p _
    cases p with | up p =>
    subst p; exact .own k l e xs hk
   ·cases hx
  | stale e v hv => simp [toData] at hx
  | agg i fs cs hs =>
   cases t with
   | named j =>
    simp only [toData] at hx
    split at hx
    ·rename_i p _
     cases p with | up p =>
     subst p; exact .agg i fs cs hs
    ·cases hx
   | _ => simp [toData] at hx
theorem own_crep (hst : StRep E σ st w) {k : Nat} {l : RM} {e : Ty} {xs : List (I E.T e)} (hk : nth? st k = some (.arr l e xs)) (hM : ∀ b, M b → MB σ st b) (hb : ∀ b, blk (σ k) = some b → ¬ M b) : CRep E w M (.slice e) xs [σ k] := by
 have hob := hst.obj k _ hk
 generalize hσ : σ k = s at hob hb
 cases hob with
 | arr l e xs _ hown =>
  rcases hown.2 with ⟨⟨a, rfl⟩, rfl⟩ | ⟨g, cap, c, el, fr, cs, rfl, hcap, hh, hz, hfz, hl, hq, hord⟩
  ·exact .slice e [] a 0 [] (.nil e) (.inl rfl) (Nat.zero_le _) (Nat.le_refl _)
  ·refine .slice e xs (some ⟨g, 0, none⟩) (cap + 1) cs (LRep.keep (Kept.weaken hM) hl) ?_ hown.1 hcap
   refine .inr ⟨g, 0, rfl, hb g rfl, (Array.getElem?_eq_some_iff.1 hh).1, fun q v hv => ?_⟩
   simp [World.cell?, hh, hq q v hv]
theorem toHLWith_ok' {f : (t : Ty) → DVal E.T → Option (I E.T t)} {M' : Nat → Prop} :
  ∀ {ts : List Ty} {fs : List (DVal E.T)} {cs : List Value}, VTs E σ st w M ts fs cs → (∀ t d x cs, d ∈ fs → f t d = some x → VT E σ st w M t d cs → CRep E w M' t x cs) → ∀ {r : HL E.T ts}, toHLWith E f ts fs = some r → FRep E w M' ts r cs
 | _, _, _, .nil, _ => by
  intro _
  exact .nil
 | _, _, _, .cons t ts v vs c1 c2 hv hvs, hf => by
  intro h
  simp only [toHLWith] at h
  split at h
  ·rename_i x hx
   split at h
   ·rename_i y hy
    cases h
    exact .cons t ts x y c1 c2 (hf t v x c1 (by simp) hx hv) (toHLWith_ok' hvs (fun t d x cs hd => hf t d x cs (by simp [hd])) hy)
   ·cases h
  ·cases h
theorem refs_mem {d : DVal E.T} : ∀ {fs : List (DVal E.T)}, d ∈ fs → ∀ k ∈ refs d, k ∈ refsL fs
 | v :: r, h, k, hk => by
  simp only [refsL, List.mem_append]
  rcases List.mem_cons.1 h with rfl | h
  ·exact .inl hk
  ·exact .inr (refs_mem h k hk)
theorem toData_ok (ok : EnvOk E) (hst : StRep E σ st w) {M : Nat → Prop} (hM : ∀ b, M b → MB σ st b)
  : ∀ (n : Nat) {t : Ty} {d : DVal E.T} {x : I E.T t} {cs : List Value}, (∀ k ∈ refs d, ∀ l e xs b, nth? st k = some (.arr l e xs) → blk (σ k) = some b → ¬ M b) → toData E st n t d = some x → VT E σ st w (MB σ st) t d cs → CRep E w M t x cs
 | 0, _, _, _, _, _, h, _ => by cases h
 | n + 1, t, d, x, cs, hb, h, hv => by
  cases hv with
  | val t y cs hc =>
   simp only [toData] at h
   split at h
   ·rename_i p _
    cases p with | up p =>
    cases h; exact CRep.keep (Kept.weaken hM) hc
   ·cases h
  | nils e a =>
   simp only [toData, Option.some.injEq] at h
   subst h
   exact .slice e [] a 0 [] (.nil e) (.inl rfl) (Nat.zero_le _) (Nat.le_refl _)
  | own k l e xs hk =>
   simp only [toData, hk] at h
   split at h
   ·rename_i p _
    cases p with | up p =>
    cases h
    exact own_crep hst hk hM (fun b => hb k (by simp [refs]) l e xs b hk)
   ·cases h
  | stale e v hv => simp [toData] at h
  | agg i fs cs hs =>
   simp only [toData] at h
   split at h
   ·split at h
    ·rename_i r hr
     cases h
     exact .named i _ cs (by rw [ok.out_into]; exact toHLWith_ok' hs (fun t d x cs hd => toData_ok ok hst hM n (fun k hk => hb k (by simp only [refs]; exact refs_mem hd k hk))) hr)
    ·cases h
   ·cases h
theorem toData_look (ok : EnvOk E) (hst : StRep E σ st w) (n : Nat) {t : Ty} {d : DVal E.T} {x : I E.T t} {cs : List Value} (h : toData E st n t d = some x) (hv : VT E σ st w (MB σ st) t d cs) : CRep E w (fun _ => False) t x cs :=
 toData_ok ok hst (fun b h => h.elim) n (fun _ _ _ _ _ _ _ _ h => h) h hv
theorem rep_data {t : Ty} {d : DVal E.T} {x : I E.T t} {n : Nat} {u : Value} (h : toData E st n t d = some x) (hv : VRep E σ st w M d u) : ∃ cs, VT E σ st w M t d cs ∧ u = toV t cs := by
 cases n with
 | zero => cases h
 | succ n =>
 cases hv with
 | data t' d cs hv =>
  have h2 := toData_ty hv (n + 1) h
  refine ⟨cs, h2, ?_⟩
  cases h2 with
  | val t x cs h => cases hv; rfl
  | nils e a => cases hv; rfl
  | own k l e xs h => cases hv; rfl
  | stale e v h => cases hv; rfl
  | agg i fs cs h => cases hv; rfl
 | undef v => cases t <;> cases h
 | ptr o p b hb hl => cases t <;> cases h
 | nilptr => cases t <;> cases h
 | rptr t x a cs hc hm => cases t <;> cases h
 | tup vs us hu => cases t <;> cases h
 | fn f vs us hu => cases t <;> cases h
 | nilfn => cases t <;> cases h
 | ifc t d v hu => cases t <;> cases h
 | nilifc => cases t <;> cases h
theorem run_part_ok (S : Sound P E) {t : TypeId} {ty : Ty} (h : E.tk t = .data ty) {xs : Array Value} {l c r : List Value} (hx : xs.toList = l ++ c ++ r) (hc : c.length = E.size ty) (w : World) :
  (part t xs l.length).run P w = .ok (toV ty c) w := by
 obtain ⟨i, hi, hs, _⟩ := (S.data t ty h).info
 unfold part
 simp only [Sem.run_bind, run_isAgg S h, Result.andThen_ok]
 cases ha : isAggTy ty with
 | true =>
  have he : xs.extract l.length (l.length + E.size ty) = c.toArray := by
   apply Array.ext'
   rw [Array.toList_extract, hx]
   simp only [List.extract, List.append_assoc]
   rw [List.drop_append_of_le_length (Nat.le_refl _), List.drop_length, List.nil_append, Nat.add_sub_cancel_left, ← hc, List.take_append_of_le_length (Nat.le_refl _), List.take_length]
  simp [run_size hi, hs, he, toV, ha]
 | false =>
  obtain ⟨v, rfl⟩ : ∃ v, c = [v] := List.length_eq_one_iff.1 (by rw [hc]; exact size_one ha)
  have : xs[l.length]? = some v := by
   rw [← Array.getElem?_toList, hx, List.append_assoc, List.getElem?_append_right (Nat.le_refl _)]; simp
  simp [this, toV, ha]
theorem eqFields_ok (S : Sound P E) {n d : Nat} (ih : ∀ (t : TypeId) (ty : Ty) (x y : I E.T ty) (cs cs' : List Value), eqOk E n ty = true → E.tk t = .data ty → E.cmp t = true → CRep E w M ty x cs → CRep E w M ty y cs' →
   (Op.equalIn d t (toV ty cs) (toV ty cs')).run P w = .ok (eqI E ty x y) w) {xs ys : Array Value} :
  ∀ (ts : List Ty) (r r' : HL E.T ts) (fl : List Field) (l l' c c' : List Value), xs.toList = l ++ c → ys.toList = l' ++ c' → l.length = l'.length → FRep E w M ts r c → FRep E w M ts r' c' → fl.length = ts.length →
   (∀ (q : Nat) (f : Field), fl[q]? = some f → ∃ ty, nth? ts q = some ty ∧ E.tk f.type = .data ty ∧ f.offset = l.length + ((ts.take q).map E.size).sum ∧ E.cmp f.type = true ∧ f.name ≠ "_" ∧ eqOk E n ty = true) →
   (Op.eqFields d xs ys fl).run P w = .ok (eqHL E ts r r') w
 | [], r, r', fl, l, l', c, c', _, _, _, _, _, hfl, _ => by
  obtain rfl : fl = [] := List.eq_nil_of_length_eq_zero hfl
  simp [Op.eqFields, eqHL]
 | t :: ts, r, r', fl, l, l', c, c', hx, hy, hll, h1, h2, hfl, hf => by
  cases fl with
  | nil => cases hfl
  | cons f fl =>
   cases h1 with
   | cons t ts x r c1 c2 g1 g2 =>
    cases h2 with
    | cons t ts y r' d1 d2 k1 k2 =>
     obtain ⟨ty, e1, e2, e3, e4, e5, e6⟩ := hf 0 f rfl
     simp only [nthq_nil, nthq_zero, nthq_succ, Option.some.injEq] at e1
     subst e1
     simp only [List.take_zero, List.map_nil, List.sum_nil, Nat.add_zero] at e3
     have p1 := run_part_ok S e2 (xs := xs) (l := l) (c := c1) (r := c2) (by rw [hx]; simp) (CRep.len S.toEnvOk g1) w
     have p2 := run_part_ok S e2 (xs := ys) (l := l') (c := d1) (r := d2) (by rw [hy]; simp) (CRep.len S.toEnvOk k1) w
     have p3 := ih f.type t x y c1 d1 e6 e2 e4 g1 k1
     have p4 := eqFields_ok S ih ts r r' fl (l ++ c1) (l' ++ d1) c2 d2 (by rw [hx]; simp) (by rw [hy]; simp) (by simp [hll, CRep.len S.toEnvOk g1, CRep.len S.toEnvOk k1]) g2 k2 (by simpa using hfl)
      (fun q f hq => by
       obtain ⟨ty, a1, a2, a3, a4, a5, a6⟩ := hf (q + 1) f (by simpa using hq)
       exact ⟨ty, by simpa [nthq_nil, nthq_zero, nthq_succ] using a1, a2, by rw [a3]; simp [CRep.len S.toEnvOk g1]; omega, a4, a5, a6⟩)
     simp only [Op.eqFields, if_pos e5, Sem.run_bind, e3, p1, Result.andThen_ok]
     rw [hll, p2]
     simp only [Result.andThen_ok, p3, eqHL]
     cases eqI E t x y with
     | true => simp [p4]
     | false => simp
theorem eqItems_ok (S : Sound P E) {d : Nat} {te : TypeId} {e : Ty} (hte : E.tk te = .data e) (ih : ∀ (x y : I E.T e) (cs cs' : List Value), CRep E w M e x cs → CRep E w M e y cs' → (Op.equalIn d te (toV e cs) (toV e cs')).run P w = .ok (eqI E e x y) w) {X Y : Array Value} :
  ∀ (xs ys : List (I E.T e)) (k : Nat) (l l' c c' : List Value), X.toList = l ++ c → Y.toList = l' ++ c' → l.length = k * E.size e → l'.length = k * E.size e → LRep E w M e xs c → LRep E w M e ys c' → xs.length = ys.length →
   (Op.eqItems d te (E.size e) X Y (List.range' k xs.length)).run P w = .ok (eqI.eqL (eqI E e) xs ys) w
 | [], ys, k, l, l', c, c', hx, hy, hl, hl', h1, h2, hn => by
  cases ys with
  | nil => simp [Op.eqItems, eqI.eqL]
  | cons y r => simp at hn
 | x :: xs, ys, k, l, l', c, c', hx, hy, hl, hl', h1, h2, hn => by
  cases ys with
  | nil => simp at hn
  | cons y ys =>
   cases h1 with
   | cons e x r c1 c2 g1 g2 =>
    cases h2 with
    | cons e y r' d1 d2 k1 k2 =>
     have p1 := run_part_ok S hte (xs := X) (l := l) (c := c1) (r := c2) (by rw [hx]; simp) (CRep.len S.toEnvOk g1) w
     have p2 := run_part_ok S hte (xs := Y) (l := l') (c := d1) (r := d2) (by rw [hy]; simp) (CRep.len S.toEnvOk k1) w
     have p3 := ih x y c1 d1 g1 k1
     have p4 := eqItems_ok S hte ih xs ys (k + 1) (l ++ c1) (l' ++ d1) c2 d2 (by rw [hx]; simp) (by rw [hy]; simp) (by rw [List.length_append, hl, CRep.len S.toEnvOk g1, Nat.succ_mul]) (by rw [List.length_append, hl', CRep.len S.toEnvOk k1, Nat.succ_mul]) g2 k2 (by simpa using hn)
     rw [List.length_cons, List.range'_succ]
     rw [hl] at p1
     rw [hl'] at p2
     simp only [Op.eqItems, Sem.run_bind, p1, p2, p3, Result.andThen_ok, eqI.eqL]
     cases eqI E e x y with
     | true => simp [p4]
     | false => simp
theorem equalIn_ok (S : Sound P E) : ∀ (n d : Nat) (t : TypeId) (ty : Ty) (x y : I E.T ty) (cs cs' : List Value), n ≤ d → eqOk E n ty = true → E.tk t = .data ty → E.cmp t = true → CRep E w M ty x cs → CRep E w M ty y cs' →
  (Op.equalIn d t (toV ty cs) (toV ty cs')).run P w = .ok (eqI E ty x y) w
 | 0, d, t, ty, x, y, cs, cs', _, h, _, _, _, _ => by cases h
 | n + 1, 0, t, ty, x, y, cs, cs', hd, _, _, _, _, _ => by omega
 | n + 1, d + 1, t, ty, x, y, cs, cs', hd, he, ht, hc, h1, h2 => by
  have hdesc := (S.data t ty ht).desc
  cases h1 with
  | bool a =>
   cases h2 with
   | bool b => have hu : P.underlying t = some .bool := hdesc; simp [toV, isAggTy, Op.equalIn, run_under hu, eqI]
  | int k a =>
   cases h2 with
   | int k b => have hu : P.underlying t = some (.int k) := hdesc; simp [toV, isAggTy, Op.equalIn, run_under hu, eqI]
  | str a ha =>
   have hu : P.underlying t = some .string := hdesc
   generalize hs : a.data.toList = s at *
   cases h2 with
   | str b hb =>
    subst hs
    simp only [toV, isAggTy, Op.equalIn, Sem.run_bind, run_under hu, Result.andThen_ok, List.headD_cons, eqI, Sem.run_pure]
    rw [beq_toListBytes, ByteArray.toList_eq, ByteArray.toList_eq]
  | slice e xs a cap cs hl hm hn hcap => cases he
  | arr m e xs cs hn hl =>
   cases h2 with
   | arr m e ys cs' hn' hl' =>
    obtain ⟨te, hu, hte⟩ := hdesc
    obtain ⟨i, hi, hs, _⟩ := (S.data te e hte).info
    have hce := (S.cmp t hc).2.2.2 m te hu
    have hsz : P.cellsOf te = E.size e := by unfold Program.cellsOf; rw [hi]; exact hs
    simp only [toV, isAggTy]
    rw [Go.run_equalIn_array w d _ _ hu hi, hsz, eqI]
    have := eqItems_ok S hte (fun x y cs cs' g1 g2 => equalIn_ok S n d te e x y cs cs' (by omega) he hte hce g1 g2) (X := cs.toArray) (Y := cs'.toArray) _ _ 0 [] [] cs cs' (by simp) (by simp) (by simp) (by simp) hl hl' (by rw [hn, hn'])
    rw [List.range_eq_range', ← hn]
    exact this
  | named i x cs hf =>
   cases h2 with
   | named i y cs' hf' =>
    obtain ⟨fs, hu, hsz, hfs⟩ := hdesc
    have hp := (S.cmp t hc).2.1
    have hq := (S.cmp t hc).2.2.1 fs hu
    have hfo : P.fieldsOf t = fs := by simp [Program.fieldsOf, hu]
    simp only [toV, isAggTy]
    rw [run_equalIn_struct (P := P) w d t _ _ (by rw [hfo]; exact hu) hp, hfo, eqI, S.eqb]
    simp only [eqOk, List.all_eq_true] at he
    refine eqFields_ok S (n := n) (d := d) (fun t ty x y cs cs' e1 e2 e3 e4 e5 => equalIn_ok S n d t ty x y cs cs' (by omega) e1 e2 e3 e4 e5) (E.fields i) _ _ fs.toList [] [] cs cs' (by simp) (by simp) rfl hf hf' (by simpa using hsz) ?_
    intro q f hqf
    obtain ⟨ty, a1, a2, a3, a4, a5⟩ := hfs q f (by simpa using hqf)
    refine ⟨ty, a1, a2, by simpa [Env.foff] using a3, hq f (List.mem_of_getElem? hqf), a5, he ty ?_⟩
    rw [nth?_eq] at a1
    exact List.mem_of_getElem? a1
end
end
open Go
section
variable {P : Program} {E : Env} {w : World} {σ : Sg} {st : St E.T} {M : Nat → Prop}
theorem mkR (k : IntKind) (n : Int) (h : k = .u8 → 0 ≤ n ∧ n < 256) : VRep E σ st w M (.val (.int k) (ofI k n)) (.int k n) := by
 have := mkInt (E := E) (σ := σ) (st := st) (w := w) (M := M) k (ofI k n)
 rwa [toI_ofI k n h] at this
theorem guard_int (op : BinOp) (t : TypeId) (x y : Operand) (k : IntKind) (a : Int) (u : Value) : (eqGuard op t x y (.int k a) u).run P w = .ok () w := by
 cases op <;> cases u <;> simp [eqGuard]
theorem guard_str (op : BinOp) (t : TypeId) (x y : Operand) (a : ByteArray) (u : Value) : (eqGuard op t x y (.string a) u).run P w = .ok () w := by
 cases op <;> cases u <;> simp [eqGuard]
theorem guard_bool (op : BinOp) (t : TypeId) (x y : Operand) (a : Bool) (u : Value) : (eqGuard op t x y (.bool a) u).run P w = .ok () w := by
 cases op <;> cases u <;> simp [eqGuard]
theorem ite_get' {α : Type} {c : Bool} {t : Tree α} {a : α} (h : (Tree.ite c .fail t).get = some a) : c = false ∧ t.get = some a := by
 cases c with
 | false => exact ⟨rfl, h⟩
 | true => cases h
theorem dbits_ok {op : BinOp} {k : IntKind} {a b r : Int} (t : TypeId) (h : dbits op k a b = some r) : (binOp op t (.int k a) (.int k b)).run P w = .ok (.int k r) w ∧ ∃ m : Int, r = k.wrap m := by
 cases op <;> simp only [dbits, Option.some.injEq] at h <;> first | (cases h; done) | (subst h; exact ⟨by simp [binOp, Op.intBits], _, rfl⟩)
theorem dint_ok {op : BinOp} {k : IntKind} {x y : IntT k} {v : DVal E.T} (t : TypeId) (hs : op ≠ .shl ∧ op ≠ .shr) (h : (dint E op k (toI k x) (toI k y)).get = some v) :
  ∃ r, (binOp op t (.int k (toI k x)) (.int k (toI k y))).run P w = .ok r w ∧ VRep E σ st w M v r := by
 cases op with
 | add => cases h; exact ⟨_, by simp [binOp, Op.intArith], mkW k _⟩
 | sub => cases h; exact ⟨_, by simp [binOp, Op.intArith], mkW k _⟩
 | mul => cases h; exact ⟨_, by simp [binOp, Op.intArith], mkW k _⟩
 | quo =>
  obtain ⟨hc, h⟩ := ite_get' h
  cases h
  have hy : toI k y ≠ 0 := by simpa using hc
  exact ⟨_, by simp [binOp, Op.intDiv, hy], mkW k _⟩
 | rem =>
  obtain ⟨hc, h⟩ := ite_get' h
  cases h
  have hy : toI k y ≠ 0 := by simpa using hc
  refine ⟨_, by simp [binOp, Op.intDiv, hy], mkR k _ ?_⟩
  rintro rfl
  have hx := toI_u8_range x
  refine ⟨Int.tmod_nonneg _ hx.1, ?_⟩
  have h1 := Int.natAbs_tmod (toI .u8 x) (toI .u8 y)
  have h2 := Nat.mod_le (toI .u8 x).natAbs (toI .u8 y).natAbs
  omega
 | eql => cases h; exact ⟨_, by simp [binOp, Op.intCmp], mkBool _⟩
 | neq => cases h; exact ⟨_, by simp [binOp, Op.intCmp], mkBool _⟩
 | lss => cases h; exact ⟨_, by simp [binOp, Op.intCmp], mkBool _⟩
 | leq => cases h; exact ⟨_, by simp [binOp, Op.intCmp], mkBool _⟩
 | gtr => cases h; exact ⟨_, by simp [binOp, Op.intCmp], mkBool _⟩
 | geq => cases h; exact ⟨_, by simp [binOp, Op.intCmp], mkBool _⟩
 | shl => exact absurd rfl hs.1
 | shr => exact absurd rfl hs.2
 | and => obtain ⟨r, h1, h2⟩ := Tree.get_bind_some h; rw [Tree.get_ofOpt] at h1; cases h2; obtain ⟨h3, m, rfl⟩ := dbits_ok (P := P) (w := w) t h1; exact ⟨_, h3, mkW k _⟩
 | or => obtain ⟨r, h1, h2⟩ := Tree.get_bind_some h; rw [Tree.get_ofOpt] at h1; cases h2; obtain ⟨h3, m, rfl⟩ := dbits_ok (P := P) (w := w) t h1; exact ⟨_, h3, mkW k _⟩
 | xor => obtain ⟨r, h1, h2⟩ := Tree.get_bind_some h; rw [Tree.get_ofOpt] at h1; cases h2; obtain ⟨h3, m, rfl⟩ := dbits_ok (P := P) (w := w) t h1; exact ⟨_, h3, mkW k _⟩
 | andNot => obtain ⟨r, h1, h2⟩ := Tree.get_bind_some h; rw [Tree.get_ofOpt] at h1; cases h2; obtain ⟨h3, m, rfl⟩ := dbits_ok (P := P) (w := w) t h1; exact ⟨_, h3, mkW k _⟩
theorem dshift_ok {op : BinOp} {k k' : IntKind} {x : IntT k} {b : Int} {v : DVal E.T} (t : TypeId) (h : (dshift E op k (toI k x) b).get = some v) :
  ∃ r, (binOp op t (.int k (toI k x)) (.int k' b)).run P w = .ok r w ∧ VRep E σ st w M v r := by
 obtain ⟨hc, h⟩ := ite_get' h
 have hb : ¬ b < 0 := by simpa using hc
 cases op with
 | shl => cases h; exact ⟨_, by simp [binOp, Op.shift, hb], mkW k _⟩
 | shr =>
  cases h
  refine ⟨_, by simp [binOp, Op.shift, hb], mkR k _ ?_⟩
  rintro rfl
  have hx := toI_u8_range x
  have hp : (0 : Int) < 2 ^ min b.toNat IntKind.u8.bits := Int.pow_pos (by decide)
  rw [Int.fdiv_eq_ediv_of_nonneg _ (Int.le_of_lt hp)]
  refine ⟨Int.ediv_nonneg hx.1 (Int.le_of_lt hp), ?_⟩
  have := Int.ediv_le_self (2 ^ min b.toNat IntKind.u8.bits) hx.1
  omega
 | _ => cases h
theorem dstr_ok {op : BinOp} {a b : ByteArray} {v : DVal E.T} (t : TypeId) (h : (dstr E op a.data.toList b.data.toList).get = some v) :
  ∃ r, (binOp op t (.string a) (.string b)).run P w = .ok r w ∧ VRep E σ st w M v r := by
 cases op with
 | add =>
  obtain ⟨hc, h⟩ := ite_get h
  cases h
  have hl : a.size + b.size ≤ lim := by
   have := of_decide_eq_true hc
   rwa [Array.length_toList, Array.length_toList] at this
  have hmax : ¬ IntKind.i64.max < (a.size : Int) + b.size := by
   have : IntKind.i64.max = 9223372036854775807 := rfl
   rw [this]
   unfold lim at hl
   omega
  refine ⟨.string (a ++ b), ?_, ?_⟩
  ·have hm : IntKind.i64.max = 9223372036854775807 := rfl
   simp only [binOp, Op.stringOp]
   rw [if_neg (by rw [Int.natCast_add]; omega)]
   rfl
  ·have h := mkStr (E := E) (σ := σ) (st := st) (w := w) (M := M) (a ++ b) (by simpa using hl)
   have e : (a ++ b).data.toList = a.data.toList ++ b.data.toList := by simp
   rwa [e] at h
 | eql =>
  cases h
  refine ⟨_, ?_, mkBool _⟩
  simp only [binOp, Op.stringOp, Sem.run_pure]
  rw [ByteArray.toList_eq, ByteArray.toList_eq]
 | neq =>
  cases h
  refine ⟨_, ?_, mkBool _⟩
  simp only [binOp, Op.stringOp, Sem.run_pure]
  rw [ByteArray.toList_eq, ByteArray.toList_eq]
 | _ => cases h
theorem dcmp_ok (S : Sound P E) (hst : StRep E σ st w) {t : TypeId} {ty : Ty} (hag : ∀ cs, toV ty cs = .agg cs.toArray) {x y v : DVal E.T} {u u' : Value} {f : Bool → Bool} (ht : E.tk t = .data ty) (hc : E.cmp t = true) (he : eqOk E depth ty = true)
  (hx : VRep E σ st w (MB σ st) x u) (hy : VRep E σ st w (MB σ st) y u') (h : (dcmp E st ty x y f).get = some v) :
  ∃ (xs ys : Array Value) (b : Bool), u = .agg xs ∧ u' = .agg ys ∧ (Op.equalIn 10000 t u u').run P w = .ok b w ∧ v = .val .bool (f b) := by
 obtain ⟨a, h1, h⟩ := Tree.get_bind_some h
 obtain ⟨b, h2, h⟩ := Tree.get_bind_some h
 cases h
 rw [Tree.get_ofOpt] at h1 h2
 obtain ⟨cs, hv1, rfl⟩ := rep_data h1 hx
 obtain ⟨cs', hv2, rfl⟩ := rep_data h2 hy
 have c1 := toData_look S.toEnvOk hst depth h1 hv1
 have c2 := toData_look S.toEnvOk hst depth h2 hv2
 exact ⟨_, _, _, hag cs, hag cs', equalIn_ok S depth 10000 t ty a b cs cs' (by decide) he ht hc c1 c2, rfl⟩
theorem equal_of {t : TypeId} {x y : Value} {b : Bool} (h : ∀ d, (Op.equalIn (d + 1) t x y).run P w = .ok b w) : (Op.equal t x y).run P w = .ok b w := h 9999
theorem equalIn_ifc (d : Nat) {t t' : TypeId} {m : Array (String × TypeId)} {u : Value} (hu : P.underlying t = some (.interface m)) : (Op.equalIn (d + 1) t (.iface t' u) .nilIface).run P w = .ok false w := by
 simp [Op.equalIn, run_under hu]
theorem equalIn_nilifc (d : Nat) {t : TypeId} {m : Array (String × TypeId)} (hu : P.underlying t = some (.interface m)) : (Op.equalIn (d + 1) t .nilIface .nilIface).run P w = .ok true w := by
 simp [Op.equalIn, run_under hu]
theorem bin_eql_ifc {t t' : TypeId} {u : Value} {b : Bool} (h : (Op.equal t (.iface t' u) .nilIface).run P w = .ok b w) : (binOp .eql t (.iface t' u) .nilIface).run P w = .ok (.bool b) w := by
 simp only [binOp, Sem.run_bind, h, Result.andThen_ok, Sem.run_pure]
theorem bin_neq_ifc {t t' : TypeId} {u : Value} {b : Bool} (h : (Op.equal t (.iface t' u) .nilIface).run P w = .ok b w) : (binOp .neq t (.iface t' u) .nilIface).run P w = .ok (.bool (!b)) w := by
 simp only [binOp, Sem.run_bind, h, Result.andThen_ok, Sem.run_pure]
theorem bin_eql_nilifc {t : TypeId} {b : Bool} (h : (Op.equal t .nilIface .nilIface).run P w = .ok b w) : (binOp .eql t .nilIface .nilIface).run P w = .ok (.bool b) w := by
 simp only [binOp, Sem.run_bind, h, Result.andThen_ok, Sem.run_pure]
theorem bin_neq_nilifc {t : TypeId} {b : Bool} (h : (Op.equal t .nilIface .nilIface).run P w = .ok b w) : (binOp .neq t .nilIface .nilIface).run P w = .ok (.bool (!b)) w := by
 simp only [binOp, Sem.run_bind, h, Result.andThen_ok, Sem.run_pure]
theorem bin_eql_bool {t : TypeId} {x y b : Bool} (h : (Op.equal t (.bool x) (.bool y)).run P w = .ok b w) : (binOp .eql t (.bool x) (.bool y)).run P w = .ok (.bool b) w := by
 simp only [binOp, Sem.run_bind, h, Result.andThen_ok, Sem.run_pure]
theorem bin_neq_bool {t : TypeId} {x y b : Bool} (h : (Op.equal t (.bool x) (.bool y)).run P w = .ok b w) : (binOp .neq t (.bool x) (.bool y)).run P w = .ok (.bool (!b)) w := by
 simp only [binOp, Sem.run_bind, h, Result.andThen_ok, Sem.run_pure]
theorem dbin_ok (S : Sound P E) (hst : StRep E σ st w) {op : BinOp} {t : TypeId} {x y v : DVal E.T} {u u' : Value} (xo yo : Operand) (h : (dbin E st op t x y).get = some v) (hx : VRep E σ st w (MB σ st) x u) (hy : VRep E σ st w (MB σ st) y u') :
  ∃ r, ((do eqGuard op t xo yo u u'; binOp op t u u') : Sem Value).run P w = .ok r w ∧ VRep E σ st w (MB σ st) v r := by
 unfold dbin at h
 split at h
 ·rename_i k a k' b
  have := intRep hx; subst this
  have := intRep hy; subst this
  simp only [Sem.run_bind, guard_int, Result.andThen_ok]
  split at h
  ·exact dshift_ok t h
  ·exact dshift_ok t h
  ·rename_i n1 n2
   split at h
   ·rename_i p _
    have := p.down; subst this
    exact dint_ok t ⟨n1, n2⟩ h
   ·cases h
 ·rename_i a b
  obtain ⟨a, rfl, rfl, _⟩ := strRep hx
  obtain ⟨b, rfl, rfl, _⟩ := strRep hy
  simp only [Sem.run_bind, guard_str, Result.andThen_ok]
  exact dstr_ok t h
 ·rename_i a b
  have := boolRep hx; subst this
  have := boolRep hy; subst this
  simp only [Sem.run_bind, guard_bool, Result.andThen_ok]
  obtain ⟨ht, h⟩ := Tree.get_need h
  have hu : P.underlying t = some .bool := (S.data t _ (isTy_eq ht)).desc
  split at h <;> cases h
  ·exact ⟨.bool (a == b), bin_eql_bool (equal_of fun d => run_equalIn_bool' (P := P) w d t a b hu), mkBool _⟩
  ·exact ⟨.bool (!(a == b)), bin_neq_bool (equal_of fun d => run_equalIn_bool' (P := P) w d t a b hu), mkBool _⟩
 ·rename_i t' d
  obtain ⟨ht, h⟩ := Tree.get_need h
  have hi : E.tk t = .iface := by
   unfold isIface at ht
   split at ht
   ·rename_i h; exact h
   ·cases ht
  obtain ⟨⟨m, hu⟩, _⟩ := S.iface t hi
  cases hx with
  | data t d cs hv => cases hv
  | ifc t' d u hv =>
   cases hy with
   | data t d cs hv => cases hv
   | nilifc =>
    have hg : (eqGuard op t xo yo (.iface t' u) .nilIface).run P w = .ok () w := by cases op <;> simp [eqGuard]
    simp only [Sem.run_bind, hg, Result.andThen_ok]
    split at h <;> cases h
    ·exact ⟨.bool false, bin_eql_ifc (equal_of fun d => equalIn_ifc d hu), mkBool _⟩
    ·exact ⟨.bool true, bin_neq_ifc (equal_of fun d => equalIn_ifc d hu), mkBool _⟩
 ·split at h
  ·rename_i i ht
   obtain ⟨hc, h⟩ := Tree.get_need h
   rw [Bool.and_eq_true] at hc
   split at h
   ·obtain ⟨xs, ys, b, rfl, rfl, hr, rfl⟩ := dcmp_ok S hst (fun _ => rfl) ht hc.1 hc.2 hx hy h
    refine ⟨.bool b, ?_, mkBool _⟩
    simp only [Sem.run_bind, run_eqGuard_agg w .eql t xo yo xs ys (S.cmp t hc.1).1, Result.andThen_ok, run_eql_struct, hr]
   ·obtain ⟨xs, ys, b, rfl, rfl, hr, rfl⟩ := dcmp_ok S hst (fun _ => rfl) ht hc.1 hc.2 hx hy h
    refine ⟨.bool (!b), ?_, mkBool _⟩
    simp only [Sem.run_bind, run_eqGuard_agg w .neq t xo yo xs ys (S.cmp t hc.1).1, Result.andThen_ok, run_neq_struct, hr]
   ·cases h
  ·rename_i n e ht
   obtain ⟨hc, h⟩ := Tree.get_need h
   rw [Bool.and_eq_true] at hc
   split at h
   ·obtain ⟨xs, ys, b, rfl, rfl, hr, rfl⟩ := dcmp_ok S hst (fun _ => rfl) ht hc.1 hc.2 hx hy h
    refine ⟨.bool b, ?_, mkBool _⟩
    simp only [Sem.run_bind, run_eqGuard_agg w .eql t xo yo xs ys (S.cmp t hc.1).1, Result.andThen_ok, run_eql_struct, hr]
   ·obtain ⟨xs, ys, b, rfl, rfl, hr, rfl⟩ := dcmp_ok S hst (fun _ => rfl) ht hc.1 hc.2 hx hy h
    refine ⟨.bool (!b), ?_, mkBool _⟩
    simp only [Sem.run_bind, run_eqGuard_agg w .neq t xo yo xs ys (S.cmp t hc.1).1, Result.andThen_ok, run_neq_struct, hr]
   ·cases h
  ·cases h
theorem dnil_ok (S : Sound P E) {op : BinOp} {t : TypeId} {xo yo : Operand} {x y : DVal E.T} {b : Bool} {u u' : Value} (hi : isIface E t = true) (h : dnil E op xo yo x y = some b) (hx : VRep E σ st w M x u) (hy : VRep E σ st w M y u') :
  ((do eqGuard op t xo yo u u'; binOp op t u u') : Sem Value).run P w = .ok (.bool b) w := by
 have ht : E.tk t = .iface := by
  unfold isIface at hi
  split at hi
  ·rename_i h; exact h
  ·cases hi
 obtain ⟨⟨m, hu⟩, _⟩ := S.iface t ht
 unfold dnil at h
 split at h
 ·have hux : u = .nilIface := by
   cases hx with
   | data t d cs hv => cases hv
   | nilifc => rfl
  have huy : u' = .nilIface := by
   cases hy with
   | data t d cs hv => cases hv
   | nilifc => rfl
  subst hux; subst huy
  have he : (Op.equal t .nilIface .nilIface).run P w = .ok true w := equal_of fun d => equalIn_nilifc d hu
  have hc : (∃ c, xo = .const c) ∨ (∃ c, yo = .const c) := by
   split at h
   ·exact .inl ⟨_, rfl⟩
   ·exact .inr ⟨_, rfl⟩
   ·cases h
  have hg : (eqGuard op t xo yo .nilIface .nilIface).run P w = .ok () w := by
   rcases hc with ⟨c, rfl⟩ | ⟨c, rfl⟩ <;> cases op <;> simp [eqGuard]
  have hop : (op = .eql ∧ b = true) ∨ (op = .neq ∧ b = false) := by
   split at h
   ·split at h <;> cases h <;> simp
   ·split at h <;> cases h <;> simp
   ·cases h
  simp only [Sem.run_bind, hg, Result.andThen_ok]
  rcases hop with ⟨rfl, rfl⟩ | ⟨rfl, rfl⟩
  ·exact bin_eql_nilifc he
  ·exact bin_neq_nilifc he
 ·cases h
theorem dun_ok {op : UnOp} {x v : DVal E.T} {u : Value} (h : (dun E op x).get = some v) (hx : VRep E σ st w M x u) : ∃ r, (Op.unary op u).run P w = .ok r w ∧ VRep E σ st w M v r := by
 unfold dun at h
 split at h
 ·cases h
  have := boolRep hx; subst this
  exact ⟨_, by simp [Op.unary], mkBool _⟩
 ·cases h
  have := intRep hx; subst this
  exact ⟨_, by simp [Op.unary, Op.intArith], mkW _ _⟩
 ·cases h
theorem dindex_ok (S : Sound P E) {t : TypeId} {x i v : DVal E.T} {u ui : Value} (h : (dindex E t x i).get = some v) (hx : VRep E σ st w M x u) (hi : VRep E σ st w M i ui) :
  ∃ y, (Instr.index t u ui).run P w = .ok y w ∧ VRep E σ st w M v y := by
 unfold dindex at h
 split at h
 ·rename_i k a
  have := intRep hi; subst this
  split at h
  ·rename_i s
   obtain ⟨ht, h1⟩ := Tree.get_need h
   have hu : P.underlying t = some .string := (S.data t _ (isTy_eq ht)).desc
   obtain ⟨hr, h2⟩ := ite_get h1
   rw [inRange_iff] at hr
   simp only [Tree.get] at h2
   obtain ⟨y, hy, h3⟩ := Option.bind_eq_some_iff.1 h2
   cases h3
   obtain ⟨b, rfl, rfl, _⟩ := strRep hx
   have hb : b[(toI k a).toNat]? = some y := by
    rw [Array.getElem?_toList] at hy
    obtain ⟨h4, h5⟩ := Array.getElem?_eq_some_iff.1 hy
    have h6 : (toI k a).toNat < b.size := h4
    rw [getElem?_pos b _ h6]
    exact congrArg some h5
   refine ⟨.int .u8 y.toNat, ?_, mkInt .u8 y⟩
   simp [Instr.index, asIntOf, run_under hu, hr.1, hb]
  ·rename_i n e xs
   split at h
   ·rename_i n' e' ht
    obtain ⟨hte, h1⟩ := Tree.get_need h
    have hee := tyEqb_eq hte
    obtain ⟨hr, h2⟩ := ite_get h1
    rw [inRange_iff] at hr
    simp only [Tree.get] at h2
    obtain ⟨y, hy, h3⟩ := Option.bind_eq_some_iff.1 h2
    cases h3
    clear h h1 h2
    cases hee
    obtain ⟨te, hu, hte'⟩ := (S.data t _ ht).desc
    obtain ⟨cs, rfl, hn, hl⟩ := arrRep hx
    obtain ⟨c, l, r, h4, rfl, h6, _⟩ := LRep.split S.toEnvOk hl _ y hy
    refine ⟨toV e c, ?_, .data e _ c (.val e y c h4)⟩
    have hp := run_part_ok S hte' (xs := (l ++ c ++ r).toArray) (l := l) (c := c) (r := r) (by simp) (CRep.len S.toEnvOk h4) w
    rw [h6] at hp
    simp only [Instr.index, asIntOf, Sem.run_bind, Sem.run_pure, run_under hu, Result.andThen_ok]
    rw [if_pos hr]
    simp only [Sem.run_bind, elem_size S hte', Result.andThen_ok, hp]
   ·cases h
  ·cases h
 ·cases h
theorem dmin2_ok {mx : Bool} {x y v : DVal E.T} {u u' : Value} (h : (dmin2 E mx x y).get = some v) (hx : VRep E σ st w M x u) (hy : VRep E σ st w M y u') :
  ∃ r, (match mx with | true => Builtin.max2 u u' | false => Builtin.min2 u u').run P w = .ok r w ∧ VRep E σ st w M v r := by
 unfold dmin2 at h
 split at h
 ·rename_i k a k' b
  have := intRep hx; subst this
  have := intRep hy; subst this
  split at h
  ·rename_i p _
   have := p.down; subst this
   cases h
   cases mx with
   | true =>
    refine ⟨_, by simp [Builtin.max2], mkR k _ ?_⟩
    rintro rfl
    have := toI_u8_range a
    have := toI_u8_range b
    split <;> omega
   | false =>
    refine ⟨_, by simp [Builtin.min2], mkR k _ ?_⟩
    rintro rfl
    have := toI_u8_range a
    have := toI_u8_range b
    split <;> omega
  ·cases h
 ·cases h
end
open Go
noncomputable section
section
variable {P : Program} {E : Env} {w : World} {σ : Sg} {st : St E.T} {M : Nat → Prop}
def Gives (P : Program) (E : Env) (σ : Sg) (st : St E.T) (w : World) (s : Sem Value) (v : DVal E.T) (st' : St E.T) : Prop :=
 ∃ y w' σ', s.run P w = .ok y w' ∧ Mv σ σ' st st' w w' ∧ VRep E σ' st' w' (MB σ' st') v y
theorem Gives.still (hst : StRep E σ st w) {s : Sem Value} {v : DVal E.T} (h : ∃ y, s.run P w = .ok y w ∧ VRep E σ st w (MB σ st) v y) : Gives P E σ st w s v st := by
 obtain ⟨y, h1, h2⟩ := h
 exact ⟨y, w, σ, h1, Mv.refl hst, h2⟩
theorem isData_under (S : Sound P E) {t : TypeId} (h : isData E t = true) : ∃ d, P.underlying t = some d := by
 unfold isData at h
 split at h
 ·rename_i ty ht
  have hd := (S.data t ty ht).desc
  cases ty with
  | bool => exact ⟨_, hd⟩
  | int k => exact ⟨_, hd⟩
  | str => exact ⟨_, hd⟩
  | slice e => obtain ⟨te, hu, _⟩ := hd; exact ⟨_, hu⟩
  | arr n e => obtain ⟨te, hu, _⟩ := hd; exact ⟨_, hu⟩
  | named i => obtain ⟨te, hu, _⟩ := hd; exact ⟨_, hu⟩
 ·cases h
theorem LRep.bytes : ∀ {xs : List UInt8} {cs : List Value}, LRep E w M (.int .u8) xs cs → cs = xs.map fun (b : UInt8) => Value.int .u8 b.toNat
 | [], _, h => by
  cases h with
  | nil e => rfl
 | x :: r, _, h => by
  cases h with
  | cons e y r' c1 c2 h1 h2 =>
   cases h1 with
   | int k x =>
    have := LRep.bytes (xs := r) h2
    rw [this]; rfl
theorem bytes_to_string (S : Sound P E) {src dst : TypeId} (hs : E.tk src = .data (.slice (.int .u8))) (hd : E.tk dst = .data .str) (a : Option Addr) (cap : Nat) (s : List UInt8) (cs : List Value) (hl : LRep E w M (.int .u8) s cs) (hm : s = [] ∨ Mem w M a cs) :
  (convert src dst (.slice a s.length cap)).run P w = .ok (.string ⟨s.toArray⟩) w := by
 obtain ⟨te, hu, hte⟩ := (S.data _ _ hs).desc
 have he : P.underlying te = some (.int .u8) := (S.data _ _ hte).desc
 have hd' : P.underlying dst = some .string := (S.data _ _ hd).desc
 have hcs := LRep.bytes hl
 subst hcs
 cases s with
 | nil =>
  rw [List.length_nil, run_convert_bytes_string w src dst te a 0 cap hu he hd']
  cases a with
  | none => simp [Conv.bytesToString]; rfl
  | some a => simp [Conv.bytesToString, loadCells, loadCellsFrom]; rfl
 | cons x r =>
  obtain ⟨b, off, rfl, _, _, hq⟩ := hm.resolve_left (by simp)
  have h := run_convert_bytes_arg (P := P) w src te hu he b off (x :: r).length cap ((x :: r).map fun (b : UInt8) => (b.toNat : Int)) (by simp) (by
   intro i hi
   refine hq i _ ?_
   rw [List.getElem?_map, List.getElem?_eq_getElem hi]
   rw [List.getD_eq_getElem?_getD, List.getElem?_map, List.getElem?_eq_getElem hi]
   rfl) dst hd'
  rw [h]
  have : strOfNums ((x :: r).map fun (b : UInt8) => (b.toNat : Int)) = ⟨(x :: r).toArray⟩ := by
   simp [strOfNums, List.map_map, Function.comp_def]
  rw [this]
theorem own_new {v : Value} {l : RM} {e : Ty} {xs : List (I E.T e)} : VRep E (setN σ st.length v) (st ++ [.arr l e xs]) w M (.own st.length) v := by
 have h := VRep.data _ _ _ (VT.own (E := E) (σ := setN σ st.length v) (st := st ++ [.arr l e xs]) (w := w) (M := M) st.length l e xs (by rw [nth?_append, if_pos rfl]))
 have h2 : toV (.slice e) [setN σ st.length v st.length] = v := by simp [toV, isAggTy, setN]
 rwa [h2] at h
theorem LRep.of_bytes : ∀ (l : List UInt8), LRep E w M (.int .u8) l (l.map fun (x : UInt8) => Value.int .u8 x.toNat)
 | [] => .nil _
 | x :: r => .cons (.int .u8) x r [_] _ (.int .u8 x) (LRep.of_bytes r)
theorem grown_ge (w : World) (need old : Nat) (e : TypeId) : need ≤ grownCap w need old e := by
 unfold grownCap Question.cut
 exact Nat.le_add_right _ _
theorem run_convert_own (w : World) (src te : TypeId) (hu : P.underlying src = some (.slice te)) (he : P.underlying te = some (.int .u8)) (g n cap : Nat) {c : Array Value} {el : TypeId} {fr : Nat × Nat} (hh : w.heap[g]? = some (.cells c el fr)) :
  (convert src src (.slice (some ⟨g, 0, none⟩) n cap)).run P w = .ok (.slice (some ⟨g, 0, none⟩) n cap) (w.freeze ⟨g, c.size, none⟩ 1) := by
 have hs : w.shape? g = some (el, c.size) := by unfold World.shape?; rw [hh]
 simp [convert, run_under hu, run_under he, markStringish, shape, Sem.run, hs]
theorem dconv_ok (S : Sound P E) (hst : StRep E σ st w) {src dst : TypeId} {x v : DVal E.T} {st' : St E.T} {u : Value} (h : (dconv E st src dst x).get = some (v, st')) (hx : VRep E σ st w (MB σ st) x u) :
  Gives P E σ st w (convert src dst u) v st' := by
 unfold dconv at h
 obtain ⟨hsd, h1⟩ := Tree.get_need h
 clear h
 obtain ⟨sd, hsu⟩ := isData_under S hsd
 split at h1
 ·rename_i k k' a ht
  cases h1
  have := intRep hx; subst this
  have hu : P.underlying dst = some (.int k) := (S.data _ _ ht).desc
  exact Gives.still hst ⟨_, by simp [convert, run_under hsu, run_under hu, Conv.intToInt], mkW k _⟩
 ·rename_i s ht
  cases h1
  have hu : P.underlying dst = some .string := (S.data _ _ ht).desc
  obtain ⟨b, rfl, rfl, hb⟩ := strRep hx
  exact Gives.still hst ⟨.string b, by simp [convert, run_under hsu, run_under hu], mkStr b hb⟩
 ·rename_i s ht
  obtain ⟨hst', h2⟩ := Tree.get_need h1
  clear h1
  cases h2
  have hsu : P.underlying src = some .string := (S.data _ _ (isTy_eq hst')).desc
  obtain ⟨te, hu, hte⟩ := (S.data _ _ ht).desc
  have he : P.underlying te = some (.int .u8) := (S.data _ _ hte).desc
  obtain ⟨b, rfl, rfl, hb⟩ := strRep hx
  have hrun := run_bytes_of_string (P := P) w src dst te b hsu hu he
  have hn : grownCap w b.size 0 te = b.size + (grownCap w b.size 0 te - b.size) := by have := grown_ge w b.size 0 te; omega
  generalize hg : grownCap w b.size 0 te = cap at hrun hn
  have hsz : (bytesRow b cap).size = cap := by simp [bytesRow]; omega
  have m1 := Mv.drawn hst (w.drawn + 1)
  have m2 := Mv.push m1.rep (.cells (bytesRow b cap) te ((bytesRow b cap).size, (bytesRow b cap).size + 1)) (.slice (some ⟨w.heap.size, 0, none⟩) b.size cap) (.arr .live (.int .u8) b.data.toList) (fun g hg => blk_row hg) (by
   have hlen : b.data.toList.length = b.size := Array.length_toList
   refine .arr .live _ _ _ (OwnRow.mk' E _ _ (cs := b.data.toList.map fun (x : UInt8) => Value.int .u8 x.toNat) (by rw [hlen]; exact hb) (by rw [hlen]; omega) (c := bytesRow b cap) (el := te) (fr := ((bytesRow b cap).size, (bytesRow b cap).size + 1)) (by simp) (by simp [Env.size, hsz]) (fun q hq => ?_) ?_ ?_ hlen.symm)
   ·have hq := hq rfl
    simp only [Env.size, Nat.mul_one] at hq
    simp [World.frozen?, hsz]; omega
   ·exact LRep.of_bytes _
   ·intro q u hq
    have hql : q < b.data.toList.length := by simpa using (List.getElem?_eq_some_iff.1 hq).1
    have hql' : q < b.data.size := by simpa using hql
    rw [bytesRow, Array.getElem?_append_left (by simpa using hql'), Array.getElem?_map]
    rw [List.getElem?_map] at hq
    simpa using hq)
  exact ⟨_, _, _, hrun, m1.trans m2, own_new⟩
 ·rename_i k ht
  obtain ⟨hsd2, h2⟩ := Tree.get_need h1
  clear h1
  obtain rfl := Nat.eq_of_beq_eq_true hsd2
  split at h2
  ·rename_i xs hk
   obtain ⟨hne, h3⟩ := Tree.get_need h2
   cases h3
   obtain ⟨te, hu, hte⟩ := (S.data _ _ ht).desc
   have he : P.underlying te = some (.int .u8) := (S.data _ _ hte).desc
   have hu0 := ownRep hx
   subst hu0
   have hob := hst.obj k _ hk
   generalize hσ : σ k = s at *
   cases hob with
   | arr _ _ _ _ hown =>
   rcases hown.2 with ⟨_, h0⟩ | ⟨g, cap, c, el, fr, cs, rfl, hcap, hh, hcz, hfz, hlo, hq, ho⟩
   ·rw [h0] at hne; cases hne
   ·obtain ⟨lo, hi⟩ := fr
    have hle : lo ≤ hi := ho rfl
    have hrun := run_convert_own (P := P) w src te hu he g xs.length (cap + 1) hh
    have hglt := (Array.getElem?_eq_some_iff.1 hh).1
    simp only [Env.size, Nat.mul_one] at hcz
    have hnew : (w.freeze ⟨g, c.size, none⟩ 1).heap[g]? = some (.cells c el (if lo == hi then (c.size, c.size + 1) else (min lo c.size, max hi (c.size + 1)))) := by
     simp [World.freeze, Array.getElem?_modify, hh]
    have hoth : ∀ b, b ≠ g → (w.freeze ⟨g, c.size, none⟩ 1).heap[b]? = w.heap[b]? := fun b hb => by
     simp [World.freeze, Array.getElem?_modify, Ne.symm hb]
    have hcs := LRep.bytes hlo
    have m := Mv.upd hst hk (Turn.refl _) id id (w.freeze ⟨g, c.size, none⟩ 1) (by simp [World.freeze]) (by simp [World.freeze]) (by simp [World.freeze]) (by simp [World.freeze]) (fun b hb => hoth b (fun h => hb rfl (by rw [hσ, h]; rfl))) (by
     rw [hσ]
     refine .arr .live _ _ _ (OwnRow.mk' E _ _ (cs := cs) hown.1 hcap hnew (by simpa [Env.size] using hcz) (fun q hq' => ?_) (by rw [hcs]; exact LRep.of_bytes _) hq rfl (ho := fun _ => by
      by_cases hlh : lo = hi
      ·subst hlh; simp
      ·have : (lo == hi) = false := by simpa using hlh
       rw [this]
       simp only [Bool.false_eq_true, if_false]
       omega))
     have hq' := hq' rfl
     simp only [Env.size, Nat.mul_one] at hq'
     have h1 : w.frozen? ⟨g, q, none⟩ = false := hfz q (fun _ => by simpa [Env.size] using hq')
     have h2 : lo < hi → cap + 1 ≤ lo := by
      intro hlt
      rcases Nat.lt_or_ge lo (cap + 1) with h | h
      ·have h3 := hfz lo (fun _ => by simpa [Env.size] using h)
       simp [World.frozen?, hh, hlt] at h3
      ·exact h
     simp only [World.frozen?, hnew]
     simp only [World.frozen?, hh] at h1
     by_cases hlh : lo = hi
     ·subst hlh
      simp; omega
     ·have : (lo == hi) = false := by simpa using hlh
      rw [this]
      simp only [Bool.false_eq_true, if_false]
      simp only [Bool.and_eq_false_iff, decide_eq_false_iff_not] at h1 ⊢
      rcases Nat.lt_or_ge lo hi with h | h
      ·have := h2 h
       left; omega
      ·omega)
    refine ⟨_, _, _, hrun, m, ?_⟩
    have hv := VRep.data _ _ _ (VT.own (E := E) (σ := σ) (st := upd st k (.arr .live (.int .u8) xs)) (w := w.freeze ⟨g, c.size, none⟩ 1) (M := MB σ (upd st k (.arr .live (.int .u8) xs))) k .live (.int .u8) xs (by rw [nth?_upd, if_pos ⟨rfl, nth?_lt hk⟩]))
    rw [hσ] at hv
    exact hv
  ·cases h2
 ·rename_i n1 n2
  split at h1
  ·rename_i hts
   obtain ⟨s, hs, h2⟩ := Tree.get_bind_some h1
   cases h2
   rw [Tree.get_ofOpt] at hs
   obtain ⟨cs, hv, rfl⟩ := rep_data hs hx
   have hc := toData_look S.toEnvOk hst depth hs hv
   cases hc with
   | slice e xs a cap cs hl hm hn hcap =>
    refine Gives.still hst ⟨_, bytes_to_string S hts (by assumption) a cap s cs hl hm, mkStr' s hn⟩
  ·cases h1
 ·cases h1
end
end
open Go
section
variable {P : Program} {E : Env} {w : World} {σ : Sg} {st : St E.T} {M : Nat → Prop}
theorem LRep.replicate {e : Ty} {z : I E.T e} {c : List Value} (h : CRep E w M e z c) : ∀ n, LRep E w M e (List.replicate n z) (List.replicate n c).flatten
 | 0 => .nil e
 | n + 1 => by
  have := LRep.cons e z _ c _ h (LRep.replicate h n)
  simpa [List.replicate_succ] using this
theorem zHL_ok {f : (t : Ty) → Option (I E.T t)} {g : Ty → List Value} (hf : ∀ t z, f t = some z → CRep E w M t z (g t)) : ∀ {ts : List Ty} {r : HL E.T ts}, zeroI.zHL E f ts = some r → FRep E w M ts r (ts.flatMap g)
 | [], r, h => .nil
 | t :: ts, r, h => by
  simp only [zeroI.zHL] at h
  split at h
  ·rename_i x hx
   split at h
   ·rename_i y hy
    cases h
    exact .cons t ts x y _ _ (hf t x hx) (zHL_ok hf hy)
   ·cases h
  ·cases h
theorem zeroI_ok (ok : EnvOk E) : ∀ (d : Nat) (t : Ty) (z : I E.T t), zeroI E d t = some z → CRep E w M t z (zeroC E d t)
 | 0, _, _, h => by cases h
 | d + 1, t, z, h => by
  cases t with
  | bool => cases h; exact .bool false
  | int k =>
   cases h
   have := CRep.int (E := E) (w := w) (M := M) k (ofI k 0)
   rw [toI_ofI k 0 (fun _ => ⟨by decide, by decide⟩)] at this
   exact this
  | str => cases h; exact .str ⟨#[]⟩ (Nat.zero_le _)
  | slice e => cases h; exact .slice e [] none 0 [] (.nil e) (.inl rfl) (Nat.zero_le _) (Nat.le_refl _)
  | arr n e =>
   simp only [zeroI] at h
   split at h
   ·rename_i y hy
    cases h
    exact .arr n e _ _ (by simp) (LRep.replicate (zeroI_ok ok d e y hy) n)
   ·cases h
  | named i =>
   simp only [zeroI] at h
   split at h
   ·rename_i r hr
    cases h
    exact .named i _ _ (by rw [ok.out_into]; exact zHL_ok (fun t z => zeroI_ok ok d t z) hr)
   ·cases h
theorem zHL_some {f : (t : Ty) → Option (I E.T t)} : ∀ (ts : List Ty), (∀ t ∈ ts, ∃ z, f t = some z) → ∃ r, zeroI.zHL E f ts = some r
 | [], _ => ⟨(), rfl⟩
 | t :: ts, h => by
  obtain ⟨z, hz⟩ := h t (by simp)
  obtain ⟨r, hr⟩ := zHL_some ts (fun t ht => h t (by simp [ht]))
  exact ⟨(z, r), by simp [zeroI.zHL, hz, hr]⟩
theorem zeroI_some : ∀ (d : Nat) (t : Ty), zOk E d t = true → ∃ z, zeroI E d t = some z
 | 0, _, h => by cases h
 | d + 1, t, h => by
  cases t with
  | bool => exact ⟨_, rfl⟩
  | int k => exact ⟨_, rfl⟩
  | str => exact ⟨_, rfl⟩
  | slice e => exact ⟨_, rfl⟩
  | arr n e => obtain ⟨z, hz⟩ := zeroI_some d e h; exact ⟨List.replicate n z, by simp only [zeroI, hz]⟩
  | named i =>
   simp only [zOk, List.all_eq_true] at h
   obtain ⟨r, hr⟩ := zHL_some (f := zeroI E d) (E.fields i) (fun t ht => zeroI_some d t (h t ht))
   exact ⟨E.into i r, by simp only [zeroI, hr]⟩
theorem VTs.map {f : Ty → DVal E.T} {g : Ty → List Value} : ∀ (ts : List Ty), (∀ t ∈ ts, VT E σ st w M t (f t) (g t)) → VTs E σ st w M ts (ts.map f) (ts.flatMap g)
 | [], _ => .nil
 | t :: ts, h => .cons t ts _ _ _ _ (h t (by simp)) (VTs.map ts (fun t ht => h t (by simp [ht])))
theorem zeroD_ok (ok : EnvOk E) : ∀ (d : Nat) (t : Ty), zOk E d t = true → VT E σ st w M t (zeroD E d t) (zeroC E d t)
 | 0, _, h => by cases h
 | d + 1, t, h => by
  cases t with
  | bool => exact .val _ _ _ (.bool false)
  | int k => exact .val _ _ _ (zeroI_ok ok (d + 1) (.int k) _ rfl)
  | str => exact .val _ _ _ (.str ⟨#[]⟩ (Nat.zero_le _))
  | slice e => exact .nils e none
  | arr n e =>
   obtain ⟨z, hz⟩ := zeroI_some d e h
   simp only [zeroD, hz]
   exact .val _ _ _ (zeroI_ok ok (d + 1) (.arr n e) _ (by simp only [zeroI, hz]))
  | named i =>
   simp only [zOk, List.all_eq_true] at h
   exact .agg i _ _ (VTs.map _ (fun t ht => zeroD_ok ok d t (h t ht)))
theorem fold_spl (l : List Value) : ∀ (k off : Nat) (c : Array Value), (l.zipIdx k).foldl (fun cs x => cs.setIfInBounds (off + x.2) x.1) c = spl c (off + k) l := by
 induction l with
 | nil => intro k off c; rfl
 | cons v r ih =>
  intro k off c
  rw [List.zipIdx_cons, List.foldl_cons, ih (k + 1) off]
  rfl
theorem fold_spl' (vs : Array Value) (off : Nat) (c : Array Value) : vs.zipIdx.foldl (fun cs (x : Value × Nat) => cs.setIfInBounds (off + x.2) x.1) c = spl c off vs.toList := by
 rw [← Array.foldl_toList, Array.toList_zipIdx]
 exact fold_spl vs.toList 0 off c
inductive PRep (E : Env) (σ : Sg) (st : St E.T) (w : World) (M : Nat → Prop) : List (Nat × DVal E.T) → List (Nat × Value) → Prop where
 | nil : PRep E σ st w M [] []
 | cons (j : Nat) (x : DVal E.T) (u : Value) (ps : List (Nat × DVal E.T)) (us : List (Nat × Value)) (h : VRep E σ st w M x u) (h' : PRep E σ st w M ps us) : PRep E σ st w M ((j, x) :: ps) ((j, u) :: us)
theorem VTs.length : ∀ {ts : List Ty} {fs : List (DVal E.T)} {cs : List Value}, VTs E σ st w M ts fs cs → fs.length = ts.length
 | _, _, _, .nil => rfl
 | _, _, _, .cons t ts v r c1 c2 h h' => by simp [VTs.length h']
theorem fill_ok (ok : EnvOk E) {ts : List Ty} {ev : Nat →Value} {place : Nat → Option (Nat × Nat)} (hp : ∀ j t, nth? ts j = some t → place j = some (((ts.take j).map E.size).sum, E.size t)) :
  ∀ (ps : List (Nat × DVal E.T)) (us : List (Nat × Value)) {fs : List (DVal E.T)} {cur : Array Value} {f : List (DVal E.T) → Tree (DVal E.T)} {v : DVal E.T},
   (∀ (x : DVal E.T) (u : Value), VRep E σ st w M x u → ∀ t, fitsD E st t x = true → ∃ cs, VT E σ st w M t x cs ∧ u.cells = cs.toArray) →
   PRep E σ st w M ps us → VTs E σ st w M ts fs cur.toList → (dbuild.fill E st ts fs ps f).get = some v →
   ∃ fs' cur', Instr.fill place cur us = some cur' ∧ VTs E σ st w M ts fs' cur'.toList ∧ (f fs').get = some v
 | [], us, fs, cur, f, v, hcell, hu, hv, h => by
  cases hu
  exact ⟨fs, cur, rfl, hv, h⟩
 | (j, x) :: ps, us, fs, cur, f, v, hcell, hu, hv, h => by
  cases hu with
  | cons j x u ps us hx hr =>
   simp only [dbuild.fill] at h
   split at h
   ·rename_i t ht
    obtain ⟨hfit, h1⟩ := Tree.get_need h
    clear h
    obtain ⟨cs, hvt, hcs⟩ := hcell x u hx t hfit
    have hjl : j < fs.length := by
     have h1 := nth?_lt ht
     have h2 := VTs.length hv
     omega
    obtain ⟨t1, c, l, r, e1, e2, e3, e4, e5⟩ := VTs.at ok hv j _ (nth_some (d := .undef) hjl)
    rw [ht] at e1; cases e1
    have hlen : c.length = cs.length := by rw [VT.len ok e2, VT.len ok hvt]
    have hspl : (spl cur l.length cs).toList = l ++ cs ++ r := spl_mid e3 hlen
    have hsize : cur.size = l.length + c.length + r.length := by rw [← Array.length_toList, e3]; simp; omega
    obtain ⟨fs', cur', g1, g2, g3⟩ := fill_ok ok (ev := ev) hp ps us (fs := upd fs j x) (cur := spl cur l.length cs) hcell hr (by rw [hspl]; exact e5 x cs hvt) h1
    refine ⟨fs', cur', ?_, g2, g3⟩
    simp only [Instr.fill, hp j t ht, hcs]
    have hl2 := VT.len ok hvt
    have hno : ¬ (cs.toArray.size ≠ E.size t ∨ ((ts.take j).map E.size).sum + cs.toArray.size > cur.size) := by
     rw [← e4]
     simp only [List.size_toArray]
     omega
    rw [if_neg (by rw [Bool.or_eq_true, decide_eq_true_eq, decide_eq_true_eq]; exact hno)]
    have := fold_spl' cs.toArray l.length cur
    simp only [e4] at this ⊢
    rw [this]
    simpa [e4] using g1
   ·cases h
end
open Go
section
variable {P : Program} {E : Env} {w : World} {σ : Sg} {st : St E.T} {M : Nat → Prop}
theorem fitsD_cells (ok : EnvOk E) (hst : StRep E σ st w) (x : DVal E.T) (u : Value) (h : VRep E σ st w M x u) (t : Ty) (hf : fitsD E st t x = true) : ∃ cs, VT E σ st w M t x cs ∧ u.cells = cs.toArray ∧ u = toV t cs := by
 obtain ⟨t', cs, hv, rfl⟩ := dataTy ⟨t, hf⟩ h
 have h2 := fitsD_VT hv hf
 have he : toV t' cs = toV t cs := by
  cases hv with
  | val t' x cs h => have := tyEqb_eq hf; subst this; rfl
  | nils e a => cases t <;> first | rfl | cases hf
  | own k l e xs hk =>
   simp only [fitsD, hk] at hf
   have := tyEqb_eq hf; subst this; rfl
  | stale e v h => cases hf
  | agg i fs cs h => cases t <;> first | (have := Nat.eq_of_beq_eq_true hf; subst this; rfl) | cases hf
 refine ⟨cs, h2, ?_, he⟩
 rw [he]
 exact toV_cells (VT.one hst h2) (fun ha => by rw [VT.len ok h2]; exact size_one ha)
theorem run_zero (S : Sound P E) {t : TypeId} {ty : Ty} (h : E.tk t = .data ty) (w : World) : (zeroValue t).run P w = .ok (toV ty (zeroC E depth ty)) w := by
 obtain ⟨i, hi, _, _, hz⟩ := (S.data t ty h).info
 simp [zeroValue, run_info hi, hz]
theorem zero_cells (S : Sound P E) {t : TypeId} {ty : Ty} (h : E.tk t = .data ty) (hst : StRep E σ st w) : (toV ty (zeroC E depth ty)).cells = (zeroC E depth ty).toArray := by
 have hv := zeroD_ok (σ := σ) (st := st) (w := w) (M := MB σ st) S.toEnvOk depth ty (S.data t ty h).deep
 exact toV_cells (VT.one hst hv) (fun ha => by rw [VT.len S.toEnvOk hv]; exact size_one ha)
theorem run_places (S : Sound P E) {i : Nat} : ∀ (fl : List Field), (∀ f ∈ fl, ∃ ty, E.tk f.type = .data ty) → ∀ (w : World), (fl.mapM (fun (f : Field) => do pure (f.offset, ← sizeOf f.type) : Field → Sem (Nat × Nat))).run P w =
  .ok (fl.map fun f => (f.offset, P.cellsOf f.type)) w
 | [], _, w => by simp
 | f :: fl, h, w => by
  obtain ⟨ty, ht⟩ := h f (by simp)
  obtain ⟨inf, hi, hs, _⟩ := (S.data _ _ ht).info
  have hc : P.cellsOf f.type = inf.size := by simp [Program.cellsOf, hi]
  have hr := run_places S (i := i) fl (fun f hf => h f (by simp [hf])) w
  simp only [List.mapM_cons, Sem.run_bind, run_size hi, Result.andThen_ok, Sem.run_pure, hr, List.map_cons, hc]
theorem dbuild_struct (S : Sound P E) (hst : StRep E σ st w) {t : TypeId} {i : Nat} (ht : E.tk t = .data (.named i)) {ps : List (Nat × DVal E.T)} {us : List (Nat × Value)} {v : DVal E.T} (hu : PRep E σ st w (MB σ st) ps us)
  (h : (dbuild.fill E st (E.fields i) ((E.fields i).map (zeroD E depth)) ps fun fs => .ret (.agg i fs)).get = some v) :
  ∃ y, (Instr.build t us.toArray).run P w = .ok y w ∧ VRep E σ st w (MB σ st) v y := by
 obtain ⟨fs, hun, hsz, hfs⟩ := (S.data t _ ht).desc
 have hdeep := (S.data t _ ht).deep
 have hz := zeroD_ok (σ := σ) (st := st) (w := w) (M := MB σ st) S.toEnvOk depth (.named i) hdeep
 have hdeep' : ∀ ty ∈ E.fields i, zOk E 7 ty = true := by simpa [zOk, depth] using hdeep
 have hz2 : VTs E σ st w (MB σ st) (E.fields i) ((E.fields i).map (zeroD E depth)) (zeroC E depth (.named i)) := by
  have h8 : ∀ (d : Nat) (t : Ty), zOk E d t = true → zeroD E (d + 1) t = zeroD E d t ∧ zeroC E (d + 1) t = zeroC E d t ∧ zeroI E (d + 1) t = zeroI E d t := by
   intro d
   induction d with
   | zero => intro t h; cases h
   | succ d ih =>
    intro t h
    cases t with
    | bool => exact ⟨rfl, rfl, rfl⟩
    | int k => exact ⟨rfl, rfl, rfl⟩
    | str => exact ⟨rfl, rfl, rfl⟩
    | slice e => exact ⟨rfl, rfl, rfl⟩
    | arr n e =>
     obtain ⟨h1, h2, h3⟩ := ih e h
     refine ⟨?_, ?_, ?_⟩
     ·rw [zeroD, h3]; rfl
     ·rw [zeroC, h2]; rfl
     ·rw [zeroI, h3]; rfl
    | named j =>
     simp only [zOk, List.all_eq_true] at h
     refine ⟨?_, ?_, ?_⟩
     ·rw [zeroD, zeroD]; congr 1; exact List.map_congr_left fun t ht => (ih t (h t ht)).1
     ·rw [zeroC, zeroC]
      have : ∀ (ts : List Ty), (∀ t ∈ ts, zOk E d t = true) → ts.flatMap (zeroC E (d + 1)) = ts.flatMap (zeroC E d) := by
       intro ts
       induction ts with
       | nil => intro _; rfl
       | cons t ts iht => intro h; simp only [List.flatMap_cons]; rw [(ih t (h t (by simp))).2.1, iht (fun t ht => h t (by simp [ht]))]
      exact this _ h
     ·rw [zeroI, zeroI]
      have : ∀ (ts : List Ty), (∀ t ∈ ts, zOk E d t = true) → zeroI.zHL E (zeroI E (d + 1)) ts = zeroI.zHL E (zeroI E d) ts := by
       intro ts
       induction ts with
       | nil => intro _; rfl
       | cons t ts iht => intro h; simp only [zeroI.zHL]; rw [(ih t (h t (by simp))).2.2, iht (fun t ht => h t (by simp [ht]))]
      rw [this _ h]
  have e1 : (E.fields i).map (zeroD E depth) = (E.fields i).map (zeroD E 7) := List.map_congr_left fun t ht => (h8 7 t (hdeep' t ht)).1
  rw [e1]
  exact VTs.map _ (fun t ht => zeroD_ok S.toEnvOk 7 t (hdeep' t ht))
 obtain ⟨fs', cur', g1, g2, g3⟩ := fill_ok S.toEnvOk (ev := fun _ => .nilFunc) (place := fun j => (fs.toList.map fun f => (f.offset, P.cellsOf f.type)).toArray[j]?) (ts := E.fields i) (by
   intro j t' hj
   have hjl : j < fs.size := by rw [hsz]; exact nth?_lt hj
   obtain ⟨ty, a1, a2, a3, _⟩ := hfs j _ (Array.getElem?_eq_getElem hjl)
   rw [hj] at a1; cases a1
   obtain ⟨inf, hi, hs, _⟩ := (S.data _ _ a2).info
   simp [hjl, a3, Env.foff, Program.cellsOf, hi, hs]) ps us (cur := (zeroC E depth (.named i)).toArray)
  (fun x u hx t hf => by obtain ⟨cs, c1, c2, _⟩ := fitsD_cells S.toEnvOk hst x u hx t hf; exact ⟨cs, c1, c2⟩) hu (by simpa using hz2) h
 cases g3
 refine ⟨.agg cur', ?_, ?_⟩
 ·have hm : (fs.mapM (fun (f : Field) => do pure (f.offset, ← sizeOf f.type) : Field → Sem (Nat × Nat))).run P w = .ok (fs.toList.map fun f => (f.offset, P.cellsOf f.type)).toArray w := by
   rw [Array.mapM_eq_mapM_toList, Sem.run_map, run_places S (i := i) fs.toList (fun f hf => by
    obtain ⟨j, hj, rfl⟩ := List.getElem_of_mem hf
    obtain ⟨ty, _, a2, _⟩ := hfs j _ (Array.getElem?_eq_getElem (by simpa using hj))
    exact ⟨ty, a2⟩) w]
   rfl
  have hzc := zero_cells S ht hst
  unfold Instr.build
  simp only [Sem.run_bind, run_zero S ht, Result.andThen_ok, run_under hun, hm, hzc]
  simp only [g1]
  rfl
 ·have := VRep.data _ _ _ (VT.agg i fs' cur'.toList g2)
  simpa [toV, isAggTy] using this
end
open Go
noncomputable section
section
variable {P : Program} {E : Env} {w : World} {σ : Sg} {st : St E.T} {M : Nat → Prop}
theorem elems_rep (ok : EnvOk E) (hst : StRep E σ st w) {e : Ty} {v : DVal E.T} {u : Value} {xs : List (I E.T e)} (h : elems E st e v = some xs) (hv : VRep E σ st w (MB σ st) v u) :
  ∃ a cap cs, u = .slice a xs.length cap ∧ LRep E w (MB σ st) e xs cs ∧ (xs = [] ∨ Mem w (fun _ => False) a cs) ∧ xs.length ≤ lim ∧ xs.length ≤ cap := by
 obtain ⟨cs, hvt, rfl⟩ := rep_data h hv
 cases hvt with
 | val t x cs hc =>
  simp only [elems, depth, toData] at h
  split at h
  ·rename_i p _
   cases p with | up p =>
   cases h
   cases hc with
   | slice e xs a cap cs hl hm hn hcp =>
    refine ⟨a, cap, cs, rfl, hl, hm.imp id fun hm => ?_, hn, hcp⟩
    obtain ⟨b, off, h1, h2, h3, h4⟩ := hm
    exact ⟨b, off, h1, fun h => h, h3, h4⟩
  ·cases h
 | nils e a =>
  simp only [elems, depth, toData, Option.some.injEq] at h
  subst h
  exact ⟨a, 0, [], rfl, .nil e, .inl rfl, Nat.zero_le _, Nat.le_refl _⟩
 | own k l e xs' hk =>
  simp only [elems, depth, toData, hk] at h
  split at h
  ·rename_i p _
   cases p with | up p =>
   cases h
   have hob := hst.obj k _ hk
   generalize σ k = s at hob
   cases hob with
   | arr l e xs v hr =>
    rcases hr.2 with ⟨⟨a, rfl⟩, rfl⟩ | ⟨g, cap, c, el, fr, cs, rfl, hcap, hh, hz, hf, hl, hq, hord⟩
    ·exact ⟨a, 0, [], rfl, .nil e, .inl rfl, Nat.zero_le _, Nat.le_refl _⟩
    ·refine ⟨_, cap + 1, cs, rfl, hl, .inr ⟨g, 0, rfl, fun h => h, (Array.getElem?_eq_some_iff.1 hh).1, fun q v hv => ?_⟩, hr.1, hcap⟩
     simp [World.cell?, hh, hq q v hv]
  ·cases h
 | stale e v h1 => simp [elems, depth, toData] at h
theorem toHLWith_mono {f g : (t : Ty) → DVal E.T → Option (I E.T t)} (hf : ∀ t d x, f t d = some x → g t d = some x) :
  ∀ {ts : List Ty} {fs : List (DVal E.T)} {r : HL E.T ts}, toHLWith E f ts fs = some r → toHLWith E g ts fs = some r
 | [], [], r, h => h
 | t :: ts, v :: vs, r, h => by
  simp only [toHLWith] at h
  split at h
  ·rename_i x hx
   split at h
   ·rename_i y hy
    cases h
    simp only [toHLWith, hf t v x hx, toHLWith_mono hf hy]
   ·cases h
  ·cases h
 | [], _ :: _, r, h => by simp [toHLWith] at h
 | _ :: _, [], r, h => by simp [toHLWith] at h
theorem toData_mono (st : St E.T) : ∀ (n : Nat) {t : Ty} {d : DVal E.T} {x : I E.T t}, toData E [] n t d = some x → toData E st n t d = some x
 | 0, _, _, _, h => by cases h
 | n + 1, t, d, x, h => by
  cases d with
  | val t' y => exact h
  | nils => exact h
  | own k => simp [toData, nthq_nil, nthq_zero, nthq_succ] at h
  | agg i fs =>
   cases t with
   | named j =>
    simp only [toData] at h ⊢
    split at h
    ·split at h
     ·rename_i r hr
      rw [toHLWith_mono (fun t d x => toData_mono st n) hr]
      exact h
     ·cases h
    ·cases h
   | _ => simp [toData] at h
  | _ => simp [toData] at h
theorem part_crep (ok : EnvOk E) {e : Ty} {x : DVal E.T} {u : Value} {y : I E.T e} (hy : toData E [] depth e x = some y) (hx : VRep E σ st w M x u) : ∃ cs, CRep E w M e y cs ∧ u.cells = cs.toArray := by
 obtain ⟨cs, hvt, rfl⟩ := rep_data (toData_mono st depth hy) hx
 have hc := toData_nil ok depth hy hvt
 refine ⟨cs, hc, toV_cells (CRep.one hc) (fun ha => by rw [CRep.len ok hc]; exact size_one ha)⟩
theorem fillL_ok (ok : EnvOk E) {e : Ty} {f : List (I E.T e) → Tree (DVal E.T)} {v : DVal E.T} :
  ∀ (ps : List (Nat × DVal E.T)) (us : List (Nat × Value)) {xs : List (I E.T e)} {cur : Array Value},
   PRep E σ st w M ps us → LRep E w M e xs cur.toList → (dbuild.fillL E e xs ps f).get = some v →
   ∃ xs' cur', Instr.fill (fun i => some (i * E.size e, E.size e)) cur us = some cur' ∧ LRep E w M e xs' cur'.toList ∧ xs'.length = xs.length ∧ (f xs').get = some v
 | [], us, xs, cur, hu, hv, h => by
  cases hu
  exact ⟨xs, cur, rfl, hv, rfl, h⟩
 | (j, x) :: ps, us, xs, cur, hu, hv, h => by
  cases hu with
  | cons j x u ps us hx hr =>
   simp only [dbuild.fillL] at h
   obtain ⟨y, hy, h1⟩ := Tree.get_bind_some h
   rw [Tree.get_ofOpt] at hy
   obtain ⟨hj, h2⟩ := Tree.get_need h1
   clear h h1
   rw [Nat.blt_eq] at hj
   obtain ⟨cs, hc, hcs⟩ := part_crep ok hy hx
   obtain ⟨c, l, r, e1, e2, e3, e4⟩ := LRep.split ok hv j _ (List.getElem?_eq_getElem hj)
   have hlc : c.length = cs.length := by rw [CRep.len ok e1, CRep.len ok hc]
   have hspl : (spl cur l.length cs).toList = l ++ cs ++ r := spl_mid e2 hlc
   obtain ⟨xs', cur', g1, g2, g3, g4⟩ := fillL_ok ok ps us (xs := upd xs j y) (cur := spl cur l.length cs) hr (by rw [hspl, upd_eq]; exact e4 y cs hc) h2
   refine ⟨xs', cur', ?_, g2, by rw [g3, length_upd], g4⟩
   have hsize : cur.size = l.length + c.length + r.length := by rw [← Array.length_toList, e2]; simp; omega
   have hl2 := CRep.len ok hc
   simp only [Instr.fill, hcs]
   have hno : ¬ (cs.toArray.size ≠ E.size e ∨ j * E.size e + cs.toArray.size > cur.size) := by
    rw [← e3]
    simp only [List.size_toArray]
    omega
   rw [if_neg (by rw [Bool.or_eq_true, decide_eq_true_eq, decide_eq_true_eq]; exact hno)]
   have := fold_spl' cs.toArray l.length cur
   rw [← e3, this]
   simpa using g1
theorem dbuild_arr (S : Sound P E) (hst : StRep E σ st w) {t : TypeId} {n : Nat} {e : Ty} (ht : E.tk t = .data (.arr n e)) {ps : List (Nat × DVal E.T)} {us : List (Nat × Value)} {v : DVal E.T} {z : List (I E.T e)} (hz : zeroI E depth (.arr n e) = some z)
  (hu : PRep E σ st w (MB σ st) ps us) (h : (dbuild.fillL E e z ps fun xs => .ret (.val (.arr n e) xs)).get = some v) :
  ∃ y, (Instr.build t us.toArray).run P w = .ok y w ∧ VRep E σ st w (MB σ st) v y := by
 obtain ⟨te, hun, hte⟩ := (S.data t _ ht).desc
 have hzc := zeroI_ok (w := w) (M := MB σ st) S.toEnvOk depth (.arr n e) z hz
 cases hzc with
 | arr n e xs cs hn hl =>
  obtain ⟨xs', cur', g1, g2, g3, g4⟩ := fillL_ok (v := v) (f := fun xs => .ret (.val (.arr n e) xs)) S.toEnvOk ps us (cur := (zeroC E depth (.arr n e)).toArray) hu (by simpa using hl) h
  cases g4
  refine ⟨.agg cur', ?_, ?_⟩
  ·have hzc := zero_cells S ht hst
   unfold Instr.build
   simp only [Sem.run_bind, run_zero S ht, Result.andThen_ok, run_under hun, elem_size S hte, hzc, g1]
   rfl
  ·have := VRep.data (σ := σ) (st := st) _ _ _ (VT.val _ _ _ (CRep.arr n e xs' cur'.toList (by omega) g2))
   simpa [toV, isAggTy] using this
theorem dbuild_ok (S : Sound P E) (hst : StRep E σ st w) {t : TypeId} {ps : List (Nat × DVal E.T)} {us : List (Nat × Value)} {v : DVal E.T} (hu : PRep E σ st w (MB σ st) ps us) (h : (dbuild E st t ps).get = some v) :
  ∃ y, (Instr.build t us.toArray).run P w = .ok y w ∧ VRep E σ st w (MB σ st) v y := by
 unfold dbuild at h
 split at h
 ·rename_i i ht; exact dbuild_struct S hst ht hu h
 ·rename_i n e ht
  obtain ⟨z, hz, h⟩ := Tree.get_bind_some h
  rw [Tree.get_ofOpt] at hz
  exact dbuild_arr S hst ht hz hu h
 ·cases h
theorem LRep.append : ∀ {e : Ty} {xs : List (I E.T e)} {c1 : List Value}, LRep E w M e xs c1 → ∀ {ys : List (I E.T e)} {c2 : List Value}, LRep E w M e ys c2 → LRep E w M e (xs ++ ys) (c1 ++ c2)
 | _, _, _, .nil e, _, _, h => h
 | _, _, _, .cons e x r d1 d2 h h', _, _, k => by
  have := LRep.cons e x _ d1 _ h (LRep.append h' k)
  simpa using this
theorem take_next {l : List Value} {n : Nat} {c a b r : List Value} (h : l = a ++ c ++ r) (ha : a.length = n) : l.take (n + c.length) = l.take n ++ c := by
 subst h
 rw [← ha, List.append_assoc, List.take_left, show a.length + c.length = (a ++ c).length by simp, ← List.append_assoc, List.take_left]
theorem all_ok (ok : EnvOk E) {e : Ty} {v : DVal E.T} :
  ∀ (ps : List (Nat × DVal E.T)) (us : List (Nat × Value)) (i : Nat) {xs : List (I E.T e)} {cur : Array Value} {f : List (I E.T e) → Tree (DVal E.T)},
   PRep E σ st w M ps us → cur.size = (i + ps.length) * E.size e → xs.length = i → LRep E w M e xs (cur.toList.take (i * E.size e)) → (dbuildSlice.all E e i ps f).get = some v →
   ∃ ys cur', Instr.fill (fun i => some (i * E.size e, E.size e)) cur us = some cur' ∧ LRep E w M e (xs ++ ys) cur'.toList ∧ ys.length = ps.length ∧ cur'.size = cur.size ∧ (f ys).get = some v
 | [], us, i, xs, cur, f, hu, hs, hx, hl, h => by
  cases hu
  refine ⟨[], cur, rfl, ?_, rfl, rfl, h⟩
  rw [List.append_nil]
  rwa [List.take_of_length_le (by rw [Array.length_toList, hs]; simp)] at hl
 | (j, x) :: ps, us, i, xs, cur, f, hu, hs, hx, hl, h => by
  cases hu with
  | cons j x u ps us hx' hr =>
   simp only [dbuildSlice.all] at h
   obtain ⟨hij, h1⟩ := Tree.get_need h
   have := Nat.eq_of_beq_eq_true hij; subst this
   obtain ⟨y, hy, h2⟩ := Tree.get_bind_some h1
   rw [Tree.get_ofOpt] at hy
   clear h h1
   obtain ⟨cs, hc, hcs⟩ := part_crep ok hy hx'
   have hlc := CRep.len ok hc
   have hs' : cur.size = i * E.size e + E.size e + ps.length * E.size e := by rw [hs, List.length_cons]; simp only [Nat.add_mul, Nat.one_mul]; omega
   have hll : (cur.toList.take (i * E.size e)).length = i * E.size e := by rw [List.length_take, Array.length_toList]; omega
   have hspl : (spl cur (i * E.size e) cs).toList = cur.toList.take (i * E.size e) ++ cs ++ cur.toList.drop (i * E.size e + E.size e) := by
    have := spl_mid (c := cur) (l := cur.toList.take (i * E.size e)) (m := (cur.toList.drop (i * E.size e)).take (E.size e)) (r := cur.toList.drop (i * E.size e + E.size e)) (vs := cs) (by
     rw [List.append_assoc, ← List.drop_drop, List.take_append_drop, List.take_append_drop]) (by
     rw [List.length_take, List.length_drop, Array.length_toList]; omega)
    rw [hll] at this
    exact this
   obtain ⟨ys, cur', g1, g2, g3, g4, g5⟩ := all_ok ok ps us (i + 1) (xs := xs ++ [y]) (cur := spl cur (i * E.size e) cs) hr (by rw [spl_size, hs']; simp only [Nat.add_mul, Nat.one_mul]) (by simp [hx]) (by
    have h3 : (i + 1) * E.size e = i * E.size e + cs.length := by rw [hlc, Nat.add_mul, Nat.one_mul]
    have h4 := take_next (b := []) hspl hll
    have h5 : (spl cur (i * E.size e) cs).toList.take (i * E.size e) = cur.toList.take (i * E.size e) := by
     rw [hspl, List.append_assoc]
     exact List.take_left' hll
    rw [h3, h4, h5]
    have h6 : LRep E w M e [y] cs := by
     have := LRep.cons e y [] cs [] hc (.nil e)
     simpa using this
    exact LRep.append hl h6) h2
   refine ⟨y :: ys, cur', ?_, by simpa using g2, by simp [g3], by rw [g4, spl_size], g5⟩
   simp only [Instr.fill, hcs]
   have hno : ¬ (cs.toArray.size ≠ E.size e ∨ i * E.size e + cs.toArray.size > cur.size) := by
    simp only [List.size_toArray]
    omega
   rw [if_neg (by rw [Bool.or_eq_true, decide_eq_true_eq, decide_eq_true_eq]; exact hno)]
   have := fold_spl' cs.toArray (i * E.size e) cur
   rw [this]
   simpa using g1
theorem mem_at {w' : World} {g : Nat} {c : Array Value} {el : TypeId} {fr : Nat × Nat} {cs : List Value} (hh : w'.heap[g]? = some (.cells c el fr)) (hM : ¬ M g) (hc : ∀ (q : Nat) (v : Value), cs[q]? = some v → c[q]? = some v) :
  Mem w' M (some ⟨g, 0, none⟩) cs := by
 refine ⟨g, 0, rfl, hM, (Array.getElem?_eq_some_iff.1 hh).1, fun q v hv => ?_⟩
 simp [World.cell?, hh, hc q v hv]
theorem MB_lt (hst : StRep E σ st w) {b : Nat} (h : MB σ st b) : b < w.heap.size := by
 rcases h with h | ⟨o, ob, ho, hm, hb⟩
 ·exact hst.amb b h
 exact blk_lt hst ho (by cases ob <;> first | rfl | cases hm) hb
theorem slice_data (σ : Sg) (st : St E.T) {e : Ty} {xs : List (I E.T e)} {a : Option Addr} {cap : Nat} {cs : List Value} (hl : LRep E w M e xs cs) (hm : xs = [] ∨ Mem w M a cs) (hn : xs.length ≤ lim) (hc : xs.length ≤ cap) : VRep E σ st w M (.val (.slice e) xs) (.slice a xs.length cap) :=
 VRep.data _ _ _ (VT.val _ _ _ (CRep.slice e xs a cap cs hl hm hn hc))
theorem dbuildSlice_ok (S : Sound P E) (hst : StRep E σ st w) {t : TypeId} {n : Nat} {ps : List (Nat × DVal E.T)} {us : List (Nat × Value)} {v : DVal E.T} (hu : PRep E σ st w (MB σ st) ps us) (h : (dbuildSlice E st t n ps).get = some v) :
  Gives P E σ st w (Instr.buildSlice t n us.toArray) v st := by
 unfold dbuildSlice at h
 split at h
 ·rename_i e ht
  obtain ⟨te, hun, hte⟩ := (S.data t _ ht).desc
  split at h
  ·cases h
   cases hu
   refine ⟨.slice (some ⟨w.heap.size, 0, none⟩) 0 0, w.alloc (.cells #[] te), σ, ?_, Mv.grow hst _, .data _ _ _ (.nils e _)⟩
   unfold Instr.buildSlice
   simp [run_under hun, elem_size S hte, Instr.fill, newRow, Array.range_zero']
  ·rename_i n' ps' _
   obtain ⟨hb, h1⟩ := Tree.get_need h
   clear h
   rw [Bool.and_eq_true] at hb
   have hn := Nat.eq_of_beq_eq_true hb.1
   have hb2 := hb.2
   rw [Bool.and_eq_true] at hb2
   have hbig := Nat.le_of_ble_eq_true hb2.1
   have hlim := Nat.le_of_ble_eq_true hb2.2
   clear hb2
   clear hb
   subst hn
   obtain ⟨z, hz⟩ : ∃ z : Array Value, z = (if ps.length * E.size e = 0 then (#[] : Array Value) else (zeroC E depth e).toArray) := ⟨_, rfl⟩
   obtain ⟨ys, cur', g1, g2, g3, g4, g5⟩ := all_ok (v := v) (f := fun xs => .ret (.val (.slice e) xs)) S.toEnvOk ps us 0 (xs := []) (cur := madeCells z (ps.length * E.size e)) hu (by rw [size_madeCells, Nat.zero_add]) rfl (by rw [Nat.zero_mul]; exact .nil e) h1
   cases g5
   have hm := Mv.grow hst (.cells cur' te)
   refine ⟨.slice (some ⟨w.heap.size, 0, none⟩) ps.length ps.length, w.alloc (.cells cur' te), σ, ?_, hm, ?_⟩
   ·unfold Instr.buildSlice
    have hgt : ¬ (ps.length * E.size e > 2 ^ 24) := by omega
    simp only [Sem.run_bind, run_under hun, Result.andThen_ok, elem_size S hte, hgt, if_false, Sem.run_pure]
    unfold madeCells at g1
    by_cases h0 : ps.length * E.size e = 0
    ·rw [if_pos h0] at hz
     subst hz
     simp only [h0, if_true, Sem.run_bind, Sem.run_pure, Result.andThen_ok, List.toList_toArray] at g1 ⊢
     simp only [g1]
     simp [newRow]
    ·rw [if_neg h0] at hz
     have hzc := zero_cells S hte hst
     simp only [h0, if_false, Sem.run_bind, run_zero S hte, Result.andThen_ok, Sem.run_pure, hzc, List.toList_toArray]
     subst hz
     simp only [g1]
     simp [newRow]
   ·rw [← g3]
    simp only [List.nil_append] at g2
    exact slice_data σ st (hm.keep.kept |> fun k => LRep.keep k g2) (.inr (mem_at (heap_alloc_new w (.cells cur' te)) (fun h => Nat.lt_irrefl _ (MB_lt hst h)) (fun q v hv => by rw [← Array.getElem?_toList]; exact hv))) (by rw [g3]; exact hlim) (Nat.le_refl _)
 ·cases h
theorem dbuildRow_ok (S : Sound P E) (hst : StRep E σ st w) {t : TypeId} {n : Nat} {ps : List (Nat × DVal E.T)} {us : List (Nat × Value)} {xs : List UInt8} (hu : PRep E σ st w (MB σ st) ps us) (h : (dbuildSlice E st t n ps).get = some (.val (.slice (.int .u8)) xs)) :
  Gives P E σ st w (Instr.buildSlice t n us.toArray) (.own st.length) (st ++ [.arr .live (.int .u8) xs]) := by
 unfold dbuildSlice at h
 split at h
 ·rename_i e ht
  obtain ⟨te, hun, hte⟩ := (S.data t _ ht).desc
  split at h
  ·cases h
  ·rename_i n' ps' _
   obtain ⟨hb, h1⟩ := Tree.get_need h
   clear h
   rw [Bool.and_eq_true] at hb
   have hn := Nat.eq_of_beq_eq_true hb.1
   have hb2 := hb.2
   rw [Bool.and_eq_true] at hb2
   have hbig := Nat.le_of_ble_eq_true hb2.1
   have hlim := Nat.le_of_ble_eq_true hb2.2
   clear hb2
   clear hb
   subst hn
   obtain ⟨z, hz⟩ : ∃ z : Array Value, z = (if ps.length * E.size e = 0 then (#[] : Array Value) else (zeroC E depth e).toArray) := ⟨_, rfl⟩
   obtain ⟨ys, cur', g1, g2, g3, g4, g5⟩ := all_ok (v := .val (.slice (.int .u8)) xs) (f := fun xs => .ret (.val (.slice e) xs)) S.toEnvOk ps us 0 (xs := []) (cur := madeCells z (ps.length * E.size e)) hu (by rw [size_madeCells, Nat.zero_add]) rfl (by rw [Nat.zero_mul]; exact .nil e) h1
   cases g5
   have hm := Mv.grow hst (.cells cur' te)
   have hcs := LRep.bytes (w := w) (by simpa using g2)
   refine ⟨.slice (some ⟨w.heap.size, 0, none⟩) ps.length ps.length, w.alloc (.cells cur' te), _, ?_, Mv.push hst (.cells cur' te) (.slice (some ⟨w.heap.size, 0, none⟩) ps.length ps.length) _ (fun g hg => blk_row hg) (.arr .live _ _ _ (OwnRow.mk' E _ _ (cs := cur'.toList) (by rw [g3]; exact hlim) (by rw [g3]; exact Nat.le_refl _) (heap_alloc_new w (.cells cur' te)) (by rw [g4, size_madeCells]; exact Nat.le_refl _) (fun q _ => by unfold World.frozen?; simp only [heap_alloc_new w (.cells cur' te)]; simp) (by rw [hcs]; exact LRep.of_bytes _) (fun q v hv => by rw [← Array.getElem?_toList]; exact hv) g3.symm)), own_new⟩
   ·unfold Instr.buildSlice
    have hgt : ¬ (ps.length * E.size (.int .u8) > 2 ^ 24) := by omega
    simp only [Sem.run_bind, run_under hun, Result.andThen_ok, elem_size S hte, hgt, if_false, Sem.run_pure]
    unfold madeCells at g1
    by_cases h0 : ps.length * E.size (.int .u8) = 0
    ·rw [if_pos h0] at hz
     subst hz
     simp only [h0, if_true, Sem.run_bind, Sem.run_pure, Result.andThen_ok, List.toList_toArray] at g1 ⊢
     simp only [g1]
     simp [newRow]
    ·rw [if_neg h0] at hz
     have hzc := zero_cells S hte hst
     simp only [h0, if_false, Sem.run_bind, run_zero S hte, Result.andThen_ok, Sem.run_pure, hzc, List.toList_toArray]
     subst hz
     simp only [g1]
     simp [newRow]
 ·cases h
end
end
open Go
section
variable {P : Program} {E : Env} {w : World} {σ : Sg} {st : St E.T} {M : Nat → Prop}
inductive ORep (E : Env) (σ : Sg) (st : St E.T) (w : World) (M : Nat → Prop) : Option (DVal E.T) → Option Value → Prop where
 | none : ORep E σ st w M none none
 | some (d : DVal E.T) (u : Value) (h : VRep E σ st w M d u) : ORep E σ st w M (some d) (some u)
theorem bounds_ok {b : Bool} {len cap : Nat} {lo hi : Option (DVal E.T)} {ulo uhi : Option Value} {l h : Int} (hl : ORep E σ st w M lo ulo) (hh : ORep E σ st w M hi uhi) (h1 : dbound E lo 0 = some l) (h2 : dbound E hi len = some h) (hc : len ≤ cap)
  (h3 : 0 ≤ l) (h4 : l ≤ h) (h5 : h ≤ len) : (Instr.sliceBounds b len cap ulo uhi none).run P w = .ok (l.toNat, h.toNat, cap) w := by
 have hb : ∀ {x : Option (DVal E.T)} {ux : Option Value} {d r : Int}, ORep E σ st w M x ux → dbound E x d = some r → (x = none ∧ ux = none ∧ r = d) ∨ ∃ k, ux = some (.int k r) := by
  intro x ux d r hx hr
  cases hx with
  | none => cases hr; exact .inl ⟨rfl, rfl, rfl⟩
  | some v u hv =>
   unfold dbound at hr
   split at hr
   ·rename_i heq; cases heq
   ·rename_i k a heq
    cases heq
    cases hr
    have := intRep hv
    subst this
    exact .inr ⟨k, rfl⟩
   ·cases hr
 have eh : (h.toNat : Int) = h := Int.toNat_of_nonneg (by omega)
 rcases hb hl h1 with ⟨_, rfl, rfl⟩ | ⟨k, rfl⟩ <;> rcases hb hh h2 with ⟨_, rfl, rfl⟩ | ⟨k', rfl⟩
 ·simp [Instr.sliceBounds]
 ·simp [Instr.sliceBounds, run_sliceBound, eh, (by omega : 0 ≤ h), (by omega : h ≤ (cap : Int))]
 ·simp [Instr.sliceBounds, run_sliceBound, h3, h4]
 ·simp [Instr.sliceBounds, run_sliceBound, eh, (by omega : 0 ≤ h), (by omega : h ≤ (cap : Int)), h3, h4]
theorem LRep.cutAt (ok : EnvOk E) : ∀ {e : Ty} {xs : List (I E.T e)} {cs : List Value}, LRep E w M e xs cs → ∀ n, n ≤ xs.length → ∃ c1 c2, cs = c1 ++ c2 ∧ LRep E w M e (xs.take n) c1 ∧ LRep E w M e (xs.drop n) c2
 | _, _, _, h, 0, _ => ⟨[], _, rfl, by simpa using LRep.nil _, by simpa using h⟩
 | _, _, _, .nil e, n + 1, h => by simp at h
 | _, _, _, .cons e x r d1 d2 h h', n + 1, hn => by
  obtain ⟨c1, c2, rfl, h1, h2⟩ := LRep.cutAt ok h' n (by simpa using hn)
  exact ⟨d1 ++ c1, c2, by simp, by simpa using LRep.cons e x _ d1 c1 h h1, by simpa using h2⟩
theorem LRep.cut (ok : EnvOk E) {e : Ty} {xs : List (I E.T e)} {cs : List Value} (hl : LRep E w M e xs cs) {l h : Nat} (h1 : l ≤ h) (h2 : h ≤ xs.length) :
  ∃ c, LRep E w M e ((xs.take h).drop l) c ∧ ∀ (q : Nat) (v : Value), c[q]? = some v → cs[l * E.size e + q]? = some v := by
 obtain ⟨c1, c2, rfl, e1, _⟩ := LRep.cutAt ok hl h h2
 obtain ⟨d1, d2, rfl, f1, f2⟩ := LRep.cutAt ok e1 l (by rw [List.length_take]; omega)
 refine ⟨d2, f2, fun q v hv => ?_⟩
 have hd : d1.length = l * E.size e := by rw [LRep.len ok f1, List.length_take, List.length_take, show min l (min h xs.length) = l by omega]
 rw [List.append_assoc, ← hd, List.getElem?_append_right (by omega), Nat.add_sub_cancel_left, List.getElem?_append_left (List.getElem?_eq_some_iff.1 hv).1]
 exact hv
theorem Mem.sub {M' : Nat → Prop} {b off : Nat} {cs c : List Value} {o : Nat} (hM : ¬ M' b) (hm : Mem w M (some ⟨b, off, none⟩) cs) (hc : ∀ (q : Nat) (v : Value), c[q]? = some v → cs[o + q]? = some v) : Mem w M' (some ⟨b, off + o, none⟩) c := by
 obtain ⟨b', off', ha, _, hlt, hq⟩ := hm
 cases ha
 exact ⟨b, off + o, rfl, hM, hlt, fun q v hv => by rw [Nat.add_assoc]; exact hq _ v (hc q v hv)⟩
theorem cut_rep (ok : EnvOk E) {st' : St E.T} {M' : Nat → Prop} (hM : ∀ b, M' b → M b) {e : Ty} {xs : List (I E.T e)} {cs : List Value} {a : Option Addr} {cap : Nat} (hl : LRep E w M e xs cs) (hm : xs = [] ∨ ∃ b off M0, a = some ⟨b, off, none⟩ ∧ ¬ M' b ∧ Mem w M0 a cs) (hn : xs.length ≤ lim) (hc : xs.length ≤ cap) {l h : Int}
  (h3 : 0 ≤ l) (h4 : l ≤ h) (h5 : h ≤ xs.length) :
  VRep E σ st' w M' (.val (.slice e) ((xs.take h.toNat).drop l.toNat)) (.slice (if cap = l.toNat then a else a.map (·.add (l.toNat * E.size e))) (h.toNat - l.toNat) (cap - l.toNat)) := by
 obtain ⟨c, hc1, hc2⟩ := LRep.cut ok hl (l := l.toNat) (h := h.toNat) (by omega) (by omega)
 have hlen : ((xs.take h.toNat).drop l.toNat).length = h.toNat - l.toNat := by rw [List.length_drop, List.length_take]; omega
 have hc3 := LRep.keep (Kept.weaken hM) hc1
 rw [← hlen]
 refine slice_data σ st' hc3 ?_ (by rw [hlen]; omega) (by rw [hlen]; omega)
 by_cases he : l.toNat = h.toNat
 ·left
  apply List.eq_nil_of_length_eq_zero
  rw [hlen]; omega
 ·right
  rcases hm with rfl | ⟨b, off, M0, rfl, hb, hm⟩
  ·simp at h5; omega
  ·rw [if_neg (by omega)]
   simp only [Option.map_some, addr_add]
   exact Mem.sub hb hm hc2
theorem dcut_get {α : Type} {xs : List α} {l h : Int} {f : List α → Tree (Out E)} {r : Out E} (hg : (dcut E xs l h f).get = some r) : 0 ≤ l ∧ l ≤ h ∧ h ≤ xs.length ∧ (f ((xs.take h.toNat).drop l.toNat)).get = some r := by
 unfold dcut at hg
 obtain ⟨h1, h2⟩ := ite_get hg
 simp only [Bool.and_eq_true, decide_eq_true_eq] at h1
 exact ⟨h1.1, h1.2.1, h1.2.2, h2⟩
theorem Mv.calm (hst : StRep E σ st w) {o : Nat} {ob ob' : Obj E.T} (ho : nth? st o = some ob) (ht : Turn ob ob') (hm : mutable ob' = false) (hd : isDead ob = false) (hr : ObRep E σ (D.upd st o ob') w (MB σ (D.upd st o ob')) (σ o) ob') :
  Mv σ σ st (D.upd st o ob') w w ∧ ∀ b, blk (σ o) = some b → ¬ MB σ (D.upd st o ob') b := by
 refine ⟨Mv.upd hst ho ht (fun h => by rw [hm] at h; cases h) (fun h => ?_) w rfl rfl rfl rfl (fun _ _ => rfl) hr, fun b hb h => ?_⟩
 ·cases ht with
  | box => rfl
  | arr l l' e xs xs' => cases l' <;> first | rfl | cases hm
  | dead => rfl
 ·rcases h with h | ⟨p, q, hp, hq, hbp⟩
  ·exact hst.out o ob b ho hd hb h
  rw [nth?_upd] at hp
  by_cases h' : o = p ∧ p < st.length
  ·rw [if_pos h'] at hp; cases hp; rw [hm] at hq; cases hq
  ·rw [if_neg h'] at hp
   have hne : p ≠ o := fun h => h' ⟨h.symm, nth?_lt hp⟩
   exact hst.apart p o q ob b hne hp ho hq hd hbp hb
theorem strCut {b : ByteArray} {l h : Nat} (h1 : l ≤ h) (h2 : h ≤ b.size) : (b.extract l h).data.toList = (b.data.toList.take h).drop l := by
 rw [ByteArray.data_extract, Array.toList_extract, List.extract_eq_take_drop, List.take_drop, show l + (h - l) = h by omega]
theorem dslice_ok (S : Sound P E) (hst : StRep E σ st w) {st' : St E.T} {t : TypeId} {x v : DVal E.T} {lo hi mx : Option (DVal E.T)} {u : Value} {ulo uhi umx : Option Value} (hx : VRep E σ st w (MB σ st) x u) (hlo : ORep E σ st w (MB σ st) lo ulo) (hhi : ORep E σ st w (MB σ st) hi uhi)
  (hmx : ORep E σ st w (MB σ st) mx umx) (h : (dslice E st t x lo hi mx).get = some (v, st')) : Gives P E σ st w (Instr.sliceAt t u ulo uhi umx) v st' := by
 unfold dslice at h
 cases hmx with
 | some d u hd => cases h
 | none =>
  cases x with
  | val ty xs =>
   cases ty with
   | str =>
    obtain ⟨hty, h1⟩ := Tree.get_need h
    obtain ⟨l, hl, h2⟩ := Tree.get_bind_some h1
    obtain ⟨hh, hhe, h3⟩ := Tree.get_bind_some h2
    rw [Tree.get_ofOpt] at hl hhe
    obtain ⟨c1, c2, c3, h4⟩ := dcut_get h3
    cases h4
    obtain ⟨b, rfl, rfl, hb⟩ := strRep hx
    have hu : P.underlying t = some .string := (S.data _ _ (isTy_eq hty)).desc
    have hlen : b.data.toList.length = b.size := Array.length_toList
    rw [hlen] at hhe c3
    refine Gives.still hst ⟨.string (b.extract l.toNat hh.toNat), ?_, ?_⟩
    ·have := bounds_ok (P := P) (b := false) hlo hhi hl hhe (Nat.le_refl _) c1 c2 c3
     simp [Instr.sliceAt, run_under hu, Instr.slice, this]
    ·have := mkStr (E := E) (σ := σ) (st := st) (w := w) (M := MB σ st) (b.extract l.toNat hh.toNat) (by simp [ByteArray.size_extract]; omega)
     rwa [strCut (by omega) (by omega)] at this
   | slice e =>
    obtain ⟨hty, h1⟩ := Tree.get_need h
    obtain ⟨l, hl, h2⟩ := Tree.get_bind_some h1
    obtain ⟨hh, hhe, h3⟩ := Tree.get_bind_some h2
    rw [Tree.get_ofOpt] at hl hhe
    obtain ⟨c1, c2, c3, h4⟩ := dcut_get h3
    cases h4
    obtain ⟨a, cap, cs, rfl, hlr, hm, hn, hc⟩ := sliceRep hx
    obtain ⟨te, hu, hte⟩ := (S.data _ _ (isTy_eq hty)).desc
    refine Gives.still hst ⟨_, ?_, cut_rep S.toEnvOk (a := a) (fun _ h => h) hlr (hm.imp id fun hm => ?_) hn hc c1 c2 c3⟩
    ·have := bounds_ok (P := P) (b := true) hlo hhi hl hhe hc c1 c2 c3
     simp [Instr.sliceAt, run_under hu, Instr.slice, this, elem_size S hte]
    ·obtain ⟨b, off, ha, hb, hlt, hq⟩ := hm
     subst ha
     exact ⟨b, off, _, rfl, hb, b, off, rfl, hb, hlt, hq⟩
   | _ => cases h
  | own k =>
   simp only at h
   split at h
   ·rename_i lv e xs hk
    obtain ⟨hty, h1⟩ := Tree.get_need h
    obtain ⟨l, hl, h2⟩ := Tree.get_bind_some h1
    obtain ⟨hh, hhe, h3⟩ := Tree.get_bind_some h2
    rw [Tree.get_ofOpt] at hl hhe
    obtain ⟨c1, c2, c3, h4⟩ := dcut_get h3
    cases h4
    clear h h1 h2 h3
    have hf : freeze E st [k] = upd st k (.arr .froz e xs) := by simp [freeze, hk]
    rw [hf]
    have hu' := ownRep hx
    subst hu'
    obtain ⟨te, hu, hte⟩ := (S.data _ _ (isTy_eq hty)).desc
    have hob := hst.obj k _ hk
    have hbl : ∀ b, blk (σ k) = some b → blk (σ k) = some b := fun _ h => h
    have hr : ObRep E σ (upd st k (.arr .froz e xs)) w (MB σ (upd st k (.arr .froz e xs))) (σ k) (.arr .froz e xs) := by
     have := ObRep.keep (σ' := σ) (st' := upd st k (.arr .froz e xs)) (Kept.weaken (M' := MB σ (upd st k (.arr .froz e xs))) (fun b h => MB_upd hk (fun h => by cases h) h)) (fun g _ => rfl) (fun j hj => by simp [objRefs] at hj) hob
     generalize σ k = s at this
     cases this with
     | arr l e xs v h => exact .arr .froz e xs s h
    obtain ⟨hmv, hnot⟩ := Mv.calm hst hk (.arr lv .froz e xs xs) rfl rfl hr
    generalize hs : σ k = s at *
    cases hob with
    | arr l' e xs v hown =>
     rcases hown.2 with ⟨⟨a, rfl⟩, rfl⟩ | ⟨g, cap, c, el, fr, cs, rfl, hcap, hh', hz, hfz, hlr, hq, hord⟩
     ·refine ⟨_, w, σ, ?_, hmv, cut_rep S.toEnvOk (M := MB σ st) (a := a) (fun b h => MB_upd hk (fun h => by cases h) h) (.nil e) (.inl rfl) hown.1 (Nat.le_refl _) c1 c2 c3⟩
      have := bounds_ok (P := P) (b := true) hlo hhi hl hhe (Nat.le_refl _) c1 c2 c3
      simp only [List.length_nil] at this
      simp [Instr.sliceAt, run_under hu, Instr.slice, this, elem_size S hte]
     ·refine ⟨_, w, σ, ?_, hmv, cut_rep S.toEnvOk (M := MB σ st) (a := some ⟨g, 0, none⟩) (fun b h => MB_upd hk (fun h => by cases h) h) hlr (.inr ⟨g, 0, fun _ => False, rfl, hnot g rfl, g, 0, rfl, fun h => h, (Array.getElem?_eq_some_iff.1 hh').1, fun q v hv => ?_⟩) hown.1 hcap c1 c2 c3⟩
      ·have := bounds_ok (P := P) (b := true) hlo hhi hl hhe hcap c1 c2 c3
       simp [Instr.sliceAt, run_under hu, Instr.slice, this, elem_size S hte]
      ·simp [World.cell?, hh', hq q v hv]
   ·cases h
  | rptr ty xs =>
   cases ty with
   | arr n e =>
    obtain ⟨hty, h1⟩ := Tree.get_need h
    rw [Bool.and_eq_true] at hty
    obtain ⟨hty, hnl⟩ := hty
    have hnl := Nat.le_of_ble_eq_true hnl
    obtain ⟨l, hl, h2⟩ := Tree.get_bind_some h1
    obtain ⟨hh, hhe, h3⟩ := Tree.get_bind_some h2
    rw [Tree.get_ofOpt] at hl hhe
    obtain ⟨c1, c2, c3, h4⟩ := dcut_get h3
    cases h4
    cases hx with
    | data t d cs hv => cases hv
    | rptr t y a cs hc hm =>
     cases hc with
     | arr n e xs cs hn hlr =>
      obtain ⟨te, hu, hte⟩ := (S.data _ _ (isTy_eq hty)).desc
      have hn : List.length xs = n := hn
      obtain ⟨b, off, ha, hb, hlt, hq⟩ := hm
      cases ha
      refine Gives.still hst ⟨_, ?_, cut_rep S.toEnvOk (a := some ⟨b, off, none⟩) (fun _ h => h) hlr (.inr ⟨b, off, _, rfl, hb, b, off, rfl, hb, hlt, hq⟩) (by rw [hn]; exact hnl) (cap := n) (Nat.le_of_eq hn) c1 c2 c3⟩
      have := bounds_ok (P := P) (b := false) hlo hhi hl hhe (Nat.le_refl _) c1 c2 (by rw [hn] at c3; exact c3)
      simp [Instr.sliceAt, Instr.sureAddr, run_under hu, this, elem_size S hte]
      split <;> rfl
   | _ => cases h
  | ptr o p =>
   simp only at h
   split at h
   ·rename_i ro c ho
    obtain ⟨v0, hv0, h0⟩ := Tree.get_bind_some h
    clear h
    split at h0
    ·rename_i n e xs
     obtain ⟨hty, h1⟩ := Tree.get_need h0
     rw [Bool.and_eq_true] at hty
     obtain ⟨hty, hnl⟩ := hty
     have hnl := Nat.le_of_ble_eq_true hnl
     obtain ⟨l, hl, h2⟩ := Tree.get_bind_some h1
     obtain ⟨hh, hhe, h3⟩ := Tree.get_bind_some h2
     rw [Tree.get_ofOpt] at hl hhe
     obtain ⟨c1, c2, c3, h4⟩ := dcut_get h3
     cases h4
     cases hx with
     | data t' d cs hv => cases hv
     | ptr o p b hb hlt =>
      obtain ⟨te, hu, hte⟩ := (S.data _ _ (isTy_eq hty)).desc
      have hob := hst.obj o _ ho
      have hr : ObRep E σ (upd st o (.box true c)) w (MB σ (upd st o (.box true c))) (σ o) (.box true c) := by
       have := ObRep.keep (σ' := σ) (st' := upd st o (.box true c)) (Kept.weaken (M' := MB σ (upd st o (.box true c))) (fun b h => MB_upd ho (fun h => by cases h) h)) (fun g _ => rfl) (fun j hj => same_upd ho (.box ro true c c) j) hob
       generalize σ o = s at this
       cases this with
       | box ro c b cc el fr h1 h2 h3 => exact .box true c b cc el fr h1 h2 h3
      obtain ⟨hmv, hnot⟩ := Mv.calm hst ho (.box ro true c c) rfl rfl hr
      rcases getO_ok S.toEnvOk (ob := .box ro c) hv0 (fun h => by cases h) hob hb with ⟨t', c', hvt, hcell⟩ | ⟨y, _, hs, _⟩
      ·cases hvt with
       | val _ _ _ hc =>
        cases hc with
        | arr n e xs _ hn hlr =>
         have hn : List.length xs = n := hn
         refine ⟨_, w, σ, ?_, hmv, cut_rep S.toEnvOk (M := MB σ st) (a := some ⟨b, E.pathOff p, none⟩) (fun b h => MB_upd ho (fun h => by cases h) h) hlr (.inr ⟨b, E.pathOff p, fun _ => False, rfl, hnot b hb, b, E.pathOff p, rfl, fun h => h, blk_lt hst ho rfl hb, fun q v hv => ?_⟩) (by rw [hn]; exact hnl) (cap := n) (Nat.le_of_eq hn) c1 c2 c3⟩
         ·have := bounds_ok (P := P) (b := false) hlo hhi hl hhe (Nat.le_refl _) c1 c2 (by rw [hn] at c3; exact c3)
          simp [Instr.sliceAt, Instr.sureAddr, run_under hu, this, elem_size S hte]
          split <;> rfl
         ·exact hcell q v hv
      ·cases hs
    ·cases h0
   ·cases h
  | _ => cases h
end
open Go
section
variable {P : Program} {E : Env} {w : World} {σ : Sg} {st : St E.T} {M : Nat → Prop}
theorem made_list (z : Array Value) (n : Nat) : (madeCells z (n * z.size)).toList = (List.replicate n z.toList).flatten := by
 induction n with
 | zero => simp [madeCells, Array.range_zero']
 | succ n ih =>
  unfold madeCells at ih ⊢
  rw [Array.toList_map, Array.toList_range] at ih ⊢
  rw [Nat.succ_mul, List.range_add, List.map_append, ih, List.replicate_succ', List.flatten_append]
  congr 1
  simp only [List.flatten_cons, List.flatten_nil, List.append_nil, List.map_map]
  apply List.ext_getElem?
  intro i
  rw [List.getElem?_map, Array.getElem?_toList (xs := z)]
  rcases Nat.lt_or_ge i z.size with h | h
  ·rw [List.getElem?_range h, Option.map_some, Function.comp_apply, Nat.mul_add_mod_of_lt' h, getElem!_pos z i h, Array.getElem?_eq_getElem h]
  ·rw [List.getElem?_eq_none (by simpa using h), Array.getElem?_eq_none h]; rfl
where
 Nat.mul_add_mod_of_lt' {n m i : Nat} (h : i < m) : (n * m + i) % m = i := by rw [Nat.mul_comm, Nat.mul_add_mod, Nat.mod_eq_of_lt h]
theorem made_rep (ok : EnvOk E) {e : Ty} {x : I E.T e} {c : List Value} (h : CRep E w M e x c) (n : Nat) : LRep E w M e (List.replicate n x) (madeCells c.toArray (n * E.size e)).toList := by
 have hs : E.size e = c.toArray.size := by simpa using (CRep.len ok h).symm
 rw [hs, made_list]
 exact LRep.replicate h n
theorem new_frozen {c : Array Value} {el : TypeId} (q : Nat) : (w.alloc (.cells c el)).frozen? ⟨w.heap.size, q, none⟩ = false := by
 unfold World.frozen?
 simp only [heap_alloc_new w (.cells c el)]
 simp
theorem dmakeSlice_ok (S : Sound P E) (hst : StRep E σ st w) {dr : Bool} {st' : St E.T} {t : TypeId} {l c v : DVal E.T} {ul uc : Value} (hl : VRep E σ st w (MB σ st) l ul) (hc : VRep E σ st w (MB σ st) c uc) (h : (dmakeSlice E dr st t l c).get = some (v, st')) :
  Gives P E σ st w (Instr.makeSlice t ul uc) v st' := by
 unfold dmakeSlice at h
 split at h
 ·rename_i e k a k' b ht
  obtain ⟨h1, h2⟩ := ite_get h
  simp only [Bool.and_eq_true, decide_eq_true_eq] at h1
  obtain ⟨z, hz, h3⟩ := Tree.get_bind_some h2
  rw [Tree.get_ofOpt] at hz
  have := intRep hl; subst this
  have := intRep hc; subst this
  obtain ⟨te, hu, hte⟩ := (S.data _ _ ht).desc
  obtain ⟨i, hi, hs, hby, hzero⟩ := (S.data _ _ hte).info
  generalize toI k a = n at *
  generalize toI k' b = n' at *
  obtain ⟨h0, rfl, hlim⟩ := h1
  have hb : (i.bytes : Int) * n ≤ 281474976710656 := by
   have h8 : (i.bytes : Int) ≤ 8192 := by omega
   have h9 : n ≤ 2147483648 := hlim
   have := Int.mul_le_mul h8 h9 h0 (by omega)
   omega
  have hrun := run_make (P := P) w t te i _ hu hi hzero k k' n n h0 (Int.le_refl _) hb (by have : n ≤ 2147483648 := hlim; omega)
  have hzc := zero_cells S hte hst
  rw [hzc, hs] at hrun
  have hcz := zeroI_ok (w := w) (M := MB σ st) S.toEnvOk depth e z hz
  have hlr := made_rep S.toEnvOk hcz n.toNat
  have hll : (List.replicate n.toNat z).length = n.toNat := List.length_replicate
  cases dr with
  | true =>
   cases h3
   have hm := Mv.grow hst (.cells (madeCells (zeroC E depth e).toArray (n.toNat * E.size e)) te)
   refine ⟨_, _, σ, hrun, hm, ?_⟩
   have := slice_data σ st (a := some ⟨w.heap.size, 0, none⟩) (cap := n.toNat) (LRep.keep hm.keep.kept hlr) (.inr (mem_at (heap_alloc_new w (.cells (madeCells (zeroC E depth e).toArray (n.toNat * E.size e)) te)) (fun h => Nat.lt_irrefl _ (MB_lt hst h)) (fun q v hv => by rw [← Array.getElem?_toList]; exact hv))) (by rw [hll]; omega) (by rw [hll]; exact Nat.le_refl _)
   rw [hll] at this
   exact this
  | false =>
   cases h3
   have hm := Mv.grow hst (.cells (madeCells (zeroC E depth e).toArray (n.toNat * E.size e)) te)
   refine ⟨_, _, _, hrun, Mv.push hst _ (.slice (some ⟨w.heap.size, 0, none⟩) n.toNat n.toNat) _ (fun g hg => blk_row hg) ?_, own_new⟩
   refine .arr .live _ _ _ (OwnRow.mk' E _ _ (by rw [hll]; omega) (by rw [hll]; exact Nat.le_refl _) (heap_alloc_new w (.cells (madeCells (zeroC E depth e).toArray (n.toNat * E.size e)) te)) (by rw [size_madeCells]; exact Nat.le_refl _) (fun q _ => new_frozen q) ?_ (fun q v hv => by rw [← Array.getElem?_toList]; exact hv) hll.symm)
   refine LRep.keep ⟨?_, ?_, ?_⟩ hlr
   ·exact hm.keep.size
   ·exact hm.keep.kept.block
   ·intro b hb hM
    rcases MB_push hM with h | h
    ·exact h
    ·have := blk_row h; omega
 ·cases h
end
open Go
structure SrcZ (P : Program) (i : TypeInfo) (z : Value) (tx : TypeId) (x : Value) (n : Nat) (news : List Value) : Prop where
 kind : ∃ k, P.underlying tx = some (.int k)
 val : ∃ k, x = .int k (n : Int)
 bnd : n ≤ 2147483648
 bytes : i.bytes ≤ 8192
 zero : i.zero = some z
 zsize : z.cells.size = i.size
 made : (Builtin.zeroCells z.cells n) = news.toArray
 one : ∀ u ∈ news, oneC u = true
inductive SrcA (P : Program) (i : TypeInfo) (z : Value) (tx : TypeId) (x : Value) (n : Nat) (news : List Value) (w : World) : Prop where
 | src (h : Src P i.size tx x n news w)
 | zero (h : SrcZ P i z tx x n news)
section
variable {P : Program} {w : World} {i : TypeInfo} {z : Value} {tx : TypeId} {x : Value} {n : Nat} {news : List Value}
theorem oneC_eq (v : Value) : oneC v = v.oneCell' := by cases v <;> rfl
theorem SrcA.len (h : SrcA P i z tx x n news w) : news.length = n * i.size := by
 cases h with
 | src h => exact h.newsLen
 | zero h =>
  have := congrArg Array.size h.made
  rw [size_zeroCells, h.zsize] at this
  simpa using this.symm
theorem SrcA.one (h : SrcA P i z tx x n news w) : ∀ u ∈ news, oneC u = true := by
 cases h with
 | src h => intro u hu; rw [oneC_eq]; exact h.one u hu
 | zero h => exact h.one
theorem app_room (t ty e : TypeId) (ht : P.underlying t = some (.slice e)) (hi : P.info? e = some i) {b off sLen sCap : Nat} {c : Array Value} {el : TypeId} {fr : Nat × Nat} (hs : SrcA P i z tx x n news w)
  (hroom : sLen + n ≤ sCap) (hh : w.heap[b]? = some (.cells c el fr)) (hl : off + sLen * i.size + news.length ≤ c.size) (hf : ∀ q, off + sLen * i.size ≤ q → q < off + sLen * i.size + news.length → w.frozen? ⟨b, q, none⟩ = false) :
  (Builtin.append_ #[t, tx] ty #[.slice (some ⟨b, off, none⟩) sLen sCap, x]).run P w = .ok (.slice (some ⟨b, off, none⟩) (sLen + n) sCap) (putB w b (.cells (spl c (off + sLen * i.size) news) el fr)) := by
 have hst := run_store_list P b (off + sLen * i.size) el fr news 0 w c hh (by simpa using hl) hs.one (by simpa using hf)
 simp only [Nat.add_zero] at hst
 cases hs with
 | src hs => rcases hs.kind with ⟨e', hk⟩ | hk <;> simp [Builtin.append_, run_underlying ht, run_underlying hk, sizeOf, typeInfo, hi, hs.len, hroom, hs.cells, addr_add, hst]
 | zero hs =>
  obtain ⟨k, hk⟩ := hs.kind
  obtain ⟨k', rfl⟩ := hs.val
  have hb := hs.bnd
  have hby := hs.bytes
  have hwr : IntKind.i64.wrap (n : Int) = n := by rw [IntKind.wrap_i64]; omega
  have hneg : ¬ ((n : Int) < 0) := by omega
  have hbig : ¬ (281474976710656 < (n : Int) * (i.bytes : Int)) := by
   rw [← Int.natCast_mul]
   have := Nat.mul_le_mul hb hby
   omega
  by_cases hz0 : n * i.size = 0
  ·have hnl : news = [] := List.eq_nil_of_length_eq_zero (by rw [SrcA.len (w := w) (.zero hs), hz0])
   subst hnl
   have hst : (storeCells ⟨b, off + sLen * i.size, none⟩ [] 0).run P w = .ok () (putB w b (.cells (spl c (off + sLen * i.size) []) el fr)) := hst
   simp [Builtin.append_, run_underlying ht, run_underlying hk, sizeOf, typeInfo, zeroValue, hi, hs.zero, asInt, asIntOf, hwr, hneg, hbig, hroom, hz0, addr_add, hst]
  ·simp [Builtin.append_, run_underlying ht, run_underlying hk, sizeOf, typeInfo, zeroValue, hi, hs.zero, asInt, asIntOf, hwr, hneg, hbig, hroom, hz0, hs.made, addr_add, hst]
theorem app_none (t ty e : TypeId) (ht : P.underlying t = some (.slice e)) (hi : P.info? e = some i) (base : Option Addr) {sLen sCap : Nat} (hle : sLen ≤ sCap) (hs : SrcA P i z tx x 0 [] w) :
  (Builtin.append_ #[t, tx] ty #[.slice base sLen sCap, x]).run P w = .ok (.slice base sLen sCap) w := by
 cases hs with
 | src hs => exact run_append_nothing w t tx ty e i ht hi base sLen sCap hle x hs
 | zero hs =>
  obtain ⟨k, hk⟩ := hs.kind
  obtain ⟨k', rfl⟩ := hs.val
  have hwr : IntKind.i64.wrap 0 = 0 := by rw [IntKind.wrap_i64]; rfl
  cases base <;> simp [Builtin.append_, run_underlying ht, run_underlying hk, sizeOf, typeInfo, hi, asInt, asIntOf, hwr, hle, storeCells]
theorem app_grow (t ty e : TypeId) (ht : P.underlying t = some (.slice e)) (hi : P.info? e = some i) (hz : i.zero = some z) (hby : i.bytes ≤ 8192) (base : Option Addr) {sLen sCap : Nat} {olds : List Value}
  (hold : (Builtin.firstCells i.size sLen (.slice base sLen sCap)).run P w.drew = .ok olds.toArray w.drew) (hs : SrcA P i z tx x n news w)
  (hg : sCap < sLen + n) (hlim : sLen + n ≤ 2147483648) :
  (Builtin.append_ #[t, tx] ty #[.slice base sLen sCap, x]).run P w =
   .ok (.slice (some ⟨w.heap.size, 0, none⟩) (sLen + n) (grownCap w (sLen + n) sCap e))
    (w.drew.alloc (.cells ((olds ++ news).toArray ++ Builtin.zeroCells z.cells (grownCap w (sLen + n) sCap e - (sLen + n))) e)) := by
 have hfit : Builtin.nextslicecap (sLen + n) sCap * i.bytes ≤ 281474976710656 := growslice_fits hg (by
  have := Nat.mul_le_mul hlim hby
  omega)
 cases hs with
 | src hs => exact run_append_grow_src w t tx ty e i z ht hi hz base sLen sCap olds hold x n news hs hg (by omega) hfit
 | zero hs =>
  obtain ⟨k, hk⟩ := hs.kind
  obtain ⟨k', rfl⟩ := hs.val
  have hb := hs.bnd
  have hwr : IntKind.i64.wrap (n : Int) = n := by rw [IntKind.wrap_i64]; omega
  have hneg : ¬ ((n : Int) < 0) := by omega
  have hbig : ¬ (281474976710656 < (n : Int) * (i.bytes : Int)) := by
   rw [← Int.natCast_mul]
   have := Nat.mul_le_mul hb hby
   omega
  have hn : ¬ (sLen + n ≤ sCap) := by omega
  have h63' : ¬ (9223372036854775807 < ((sLen : Int) + (n : Int))) := by omega
  have h48' : ¬ (281474976710656 < Builtin.nextslicecap (sLen + n) sCap * i.bytes) := by omega
  by_cases hz0 : n * i.size = 0
  ·have hnl : news = [] := List.eq_nil_of_length_eq_zero (by rw [SrcA.len (w := w) (.zero hs), hz0])
   subst hnl
   simp [Builtin.append_, run_underlying ht, run_underlying hk, sizeOf, typeInfo, zeroValue, hi, hz, asInt, asIntOf, hwr, hneg, hbig, hn, h63', h48', Question.forced, hold, newRow, grownCap, hz0]
  ·simp [Builtin.append_, run_underlying ht, run_underlying hk, sizeOf, typeInfo, zeroValue, hi, hz, asInt, asIntOf, hwr, hneg, hbig, hn, h63', h48', Question.forced, hold, newRow, grownCap, hz0, hs.made]
   congr 2
   apply Array.ext'
   simp [List.append_assoc]
end
open Go
section
variable {P : Program} {E : Env} {w : World} {σ : Sg} {st : St E.T} {M : Nat → Prop}
theorem isSl_under (S : Sound P E) {t : TypeId} (h : isSl E t = true) : ∃ e, P.underlying t = some (.slice e) := by
 unfold isSl at h
 split at h
 ·rename_i e ht
  obtain ⟨te, hu, _⟩ := (S.data _ _ ht).desc
  exact ⟨te, hu⟩
 ·cases h
theorem src_elems (ok : EnvOk E) (hst : StRep E σ st w) {tx te : TypeId} (hk : P.underlying tx = some (.slice te)) {e : Ty} {x : DVal E.T} {u : Value} {ys : List (I E.T e)} (h : elems E st e x = some ys) (hx : VRep E σ st w (MB σ st) x u) :
  ∃ cs, LRep E w (MB σ st) e ys cs ∧ Src P (E.size e) tx u ys.length cs w := by
 obtain ⟨a, cap, cs, rfl, hl, hm, _, _⟩ := elems_rep ok hst h hx
 refine ⟨cs, hl, ?_⟩
 have h1 : ∀ u ∈ cs, u.oneCell' = true := fun u hu => by rw [← oneC_eq]; exact LRep.one hl u hu
 have hlen := LRep.len ok hl
 cases a with
 | none =>
  rcases hm with rfl | ⟨b, off, ha, _⟩
  ·cases hl
   exact Src.ofNil w hk cap
  ·cases ha
 | some a =>
  refine Src.ofSlice w hk a ys.length cap cs hlen (fun j v hv => ?_) h1
  rcases hm with rfl | ⟨b, off, ha, _, _, hq⟩
  ·cases hl; cases hv
  ·cases ha
   rw [addr_add]; exact hq j v hv
theorem appended_ok (S : Sound P E) (hst : StRep E σ st w) {tx te : TypeId} {i : TypeInfo} {e : Ty} (hte : E.tk te = .data e) (hi : P.info? te = some i) {x : DVal E.T} {u : Value} {k : List (I E.T e) → Tree (Out E)} {r : Out E} (h : (appended E st tx e x k).get = some r) (hx : VRep E σ st w (MB σ st) x u) :
  ∃ ys cs, (k ys).get = some r ∧ LRep E w (MB σ st) e ys cs ∧ SrcA P i (toV e (zeroC E depth e)) tx u ys.length cs w := by
 obtain ⟨i', hi', hs, hby, hz⟩ := (S.data _ _ hte).info
 rw [hi] at hi'; cases hi'
 have hels : ∀ {x : DVal E.T}, VRep E σ st w (MB σ st) x u → (Tree.need (isSl E tx) ((Tree.ofOpt (elems E st e x)).bind k)).get = some r → ∃ ys cs, (k ys).get = some r ∧ LRep E w (MB σ st) e ys cs ∧ SrcA P i (toV e (zeroC E depth e)) tx u ys.length cs w := by
  intro x hx h
  obtain ⟨h1, h2⟩ := Tree.get_need h
  obtain ⟨ys, hys, h3⟩ := Tree.get_bind_some h2
  rw [Tree.get_ofOpt] at hys
  obtain ⟨e', hk⟩ := isSl_under S h1
  obtain ⟨cs, hl, hsrc⟩ := src_elems S.toEnvOk hst hk hys hx
  exact ⟨ys, cs, h3, hl, .src (by rw [hs]; exact hsrc)⟩
 unfold appended at h
 split at h
 ·rename_i ki a
  obtain ⟨h1, h2⟩ := Tree.get_need h
  obtain ⟨h3, h4⟩ := ite_get h2
  obtain ⟨z, hz', h5⟩ := Tree.get_bind_some h4
  rw [Tree.get_ofOpt] at hz'
  simp only [Bool.and_eq_true, decide_eq_true_eq] at h3
  have := intRep hx; subst this
  generalize toI ki a = n at *
  have hcz := zeroI_ok (w := w) (M := MB σ st) S.toEnvOk depth e z hz'
  have hzc := zero_cells S hte hst
  have hlr := made_rep S.toEnvOk hcz n.toNat
  refine ⟨_, _, h5, hlr, .zero ⟨?_, ⟨ki, by rw [List.length_replicate, Int.toNat_of_nonneg h3.1]⟩, by rw [List.length_replicate]; have : n ≤ 2147483648 := h3.2; omega, hby, hz, by rw [hzc, hs]; simpa using CRep.len S.toEnvOk hcz, ?_, LRep.one hlr⟩⟩
  ·unfold isNum at h1
   split at h1
   ·rename_i k' hk'
    exact ⟨k', (S.data _ _ hk').desc⟩
   ·cases h1
  ·rw [List.length_replicate, hzc]
   have hsz : (zeroC E depth e).length = E.size e := CRep.len S.toEnvOk hcz
   unfold Builtin.zeroCells madeCells
   simp [hsz]
   apply Array.ext'
   simp
 ·rename_i s
  obtain ⟨h1, h2⟩ := Tree.get_need h
  split at h2
  ·rename_i p _
   cases p with | up p =>
   cases p
   obtain ⟨b, rfl, rfl, hb⟩ := strRep hx
   have hu : P.underlying tx = some .string := (S.data _ _ (isTy_eq h1)).desc
   refine ⟨_, _, h2, LRep.of_bytes _, .src ?_⟩
   have := Src.ofString (P := P) w hu b
   rw [hs]
   exact this
  ·cases h2
 ·exact hels hx h
theorem grown_row (S : Sound P E) {te : TypeId} {e : Ty} (hte : E.tk te = .data e) (hst : StRep E σ st w) {w' : World} {M' : Nat → Prop} {g cap : Nat} {xs : List (I E.T e)} {cs : List Value} {el : TypeId} {fr : Nat × Nat} (hl : LRep E w' M' e xs cs) (hn : xs.length ≤ lim) (hc : xs.length ≤ cap)
  (hh : w'.heap[g]? = some (.cells (cs.toArray ++ Builtin.zeroCells (toV e (zeroC E depth e)).cells (cap - xs.length)) el fr)) (hf : ∀ q, w'.frozen? ⟨g, q, none⟩ = false) {n : Nat} (hnx : n = xs.length) (ho : fr.1 ≤ fr.2 := by exact Nat.le_refl _) :
  OwnRow E w' M' e xs (.slice (some ⟨g, 0, none⟩) n cap) := by
 have hz := zero_cells S hte hst
 have hdeep := (S.data _ _ hte).deep
 have hzs : (zeroC E depth e).length = E.size e := VT.len S.toEnvOk (zeroD_ok (σ := σ) (st := st) (w := w) (M := MB σ st) S.toEnvOk depth e hdeep)
 refine OwnRow.mk' E _ _ hn hc hh ?_ (fun q _ => hf q) hl (fun q u hq => ?_) hnx
 ·rw [Array.size_append, size_zeroCells, hz, List.size_toArray, List.size_toArray, LRep.len S.toEnvOk hl, hzs, ← Nat.add_mul]
  exact Nat.mul_le_mul_right _ (by omega)
 ·rw [Array.getElem?_append_left (by simpa using (List.getElem?_eq_some_iff.1 hq).1)]
  simpa using hq
theorem dappend_nils (S : Sound P E) (hst : StRep E σ st w) {st' : St E.T} {t tx ty : TypeId} {x v : DVal E.T} {us u : Value} (hs : VRep E σ st w (MB σ st) .nils us) (hx : VRep E σ st w (MB σ st) x u) (h : (dappend E st t tx .nils x).get = some (v, st')) :
  Gives P E σ st w (Builtin.append_ #[t, tx] ty #[us, u]) v st' := by
 simp only [dappend] at h
 split at h
 ·rename_i e ht
  obtain ⟨te, hu, hte⟩ := (S.data _ _ ht).desc
  obtain ⟨i, hi, hsz, hby, hz⟩ := (S.data _ _ hte).info
  obtain ⟨ys, cs, h1, hl, hsrc⟩ := appended_ok S hst hte hi h hx
  obtain ⟨h2, h3⟩ := ite_get h1
  rw [decide_eq_true_eq] at h2
  cases h3
  obtain ⟨a, rfl⟩ := nilsRep hs
  by_cases h0 : ys.length = 0
  ·have hy : ys = [] := List.eq_nil_of_length_eq_zero h0
   subst hy
   cases hl
   have hrun := app_none (P := P) t ty te hu hi a (Nat.le_refl 0) hsrc
   have m := Mv.push0 hst (.slice a 0 0) (.arr .live e []) (blk_nil a) (fun σ' st' w' M' => .arr .live e [] _ ⟨Nat.zero_le _, .inl ⟨⟨a, rfl⟩, rfl⟩⟩)
   exact ⟨_, _, _, hrun, m, own_new⟩
  ·have hrun := app_grow (P := P) t ty te hu hi hz hby a (sLen := 0) (sCap := 0) (olds := []) (by
    have : (Builtin.firstCells i.size 0 (.slice a 0 0)).run P w.drew = .ok #[] w.drew := by
     cases a <;> simp [Builtin.firstCells, loadCells, loadCellsFrom]
    exact this) hsrc (by omega) (by rw [Nat.zero_add]; exact h2)
   simp only [Nat.zero_add, List.nil_append] at hrun
   have hge := grown_ge w ys.length 0 te
   generalize grownCap w ys.length 0 te = cap at *
   have m1 := Mv.drawn hst (w.drawn + 1)
   have m2 := Mv.push m1.rep (.cells (cs.toArray ++ Builtin.zeroCells (toV e (zeroC E depth e)).cells (cap - ys.length)) te) (.slice (some ⟨w.heap.size, 0, none⟩) ys.length cap) (.arr .live e ys) (fun g hg => blk_row hg) (by
    refine .arr .live _ _ _ (grown_row S hte hst (LRep.keep (M := MB σ st) (w := w) ⟨?_, ?_, ?_⟩ hl) h2 hge (heap_alloc_new w.drew _) (fun q => new_frozen (w := w.drew) q) rfl)
    ·simp
    ·intro b hb _
     show (w.heap.push _)[b]? = w.heap[b]?
     simp [Array.getElem?_push, Nat.ne_of_lt hb]
    ·intro b hb hM
     rcases MB_push hM with h | h
     ·exact h
     ·have := blk_row h; omega)
   exact ⟨_, _, _, hrun, m1.trans m2, own_new⟩
 ·cases h
end
end Go.Proofs.YthabbcjjecpbmaaGreat.D
