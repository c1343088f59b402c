/- Regions whose order is open: any order. Values told anew: rows that are data, records that are joined, nil rows that become rows of one's own. Code. Bodies: what they leave. Bodies with a deferred call; functions. An environment is sound where each row of its table is. Loops in closed form. Helpers for a seat's environment; functions whose bodies are their own specs. A library function that clones a row: it asks whether its row is nil, and comes to a row of its own either way. Rows: what is read of arguments is data, of bounded size. Functions some loops of which are given in closed form. Words of the nice functions. Records of the program, as Lean has them. What stands in a disk's sector, in plain words. Trees of the nice functions. -/
import Derived.Test.YthabbcjjecpbmaaGreatBase4
import Derived.Test.YthabbcjjecpbmaaGreatBase3
import Derived.Recover
import Derived.Orders
import Derived.Lib.SliceRun
import Derived.Deep.Slices
import Derived.OpenShut
import Derived.Carry
import Derived.JoinedCond
import Derived.ReadAgain
import GoSem.Dispatch
import Derived.Test.YthabbcjjecpbmaaGreatBase1
set_option linter.unusedVariables false
set_option linter.unusedSimpArgs false
namespace Go.Proofs.YthabbcjjecpbmaaGreat.D
open Go
noncomputable section
section
variable {P : Program} {E : Env} {w w' : World} {σ σ' : Sg} {st st' : St E.T} {fr : Fr E.T} {a : Act} {S : FuncId → Option (Spec E)} {fx bef : List Nat} {M : Nat → Prop} {ops : Array Oper}
variable {K : Act → World → Prop} {Q : Exit → Act → World → Prop}
theorem bits_mem {acc : List Nat} {j : Nat} : ∀ {es : List Edge}, Nat.testBit (bits acc es) j = true → ∃ e ∈ es, Region.binds .any e = true ∧ (j = e.on ∨ Nat.testBit (nth acc e.on 0) j = true)
 | [], h => by simp [bits] at h
 | e :: r, h => by
  simp only [bits] at h
  cases hb : Region.binds .any e with
  | true =>
   rw [hb] at h
   simp only [cond_true, Nat.testBit_or, Bool.or_eq_true, Nat.testBit_two_pow, decide_eq_true_eq] at h
   rcases h with h | h | h
   ·obtain ⟨e', h1, h2, h3⟩ := bits_mem h
    exact ⟨e', by simp [h1], h2, h3⟩
   ·exact ⟨e, by simp, hb, .inl h.symm⟩
   ·exact ⟨e, by simp, hb, .inr h⟩
  | false =>
   rw [hb] at h
   obtain ⟨e', h1, h2, h3⟩ := bits_mem h
   exact ⟨e', by simp [h1], h2, h3⟩
theorem nth_app_lt {l r : List Nat} {i : Nat} (h : i < l.length) : nth (l ++ r) i 0 = nth l i 0 := by
 simp only [nth_eq, List.getD_eq_getElem?_getD]
 rw [List.getElem?_append_left h]
theorem befs_pre : ∀ (l : List Oper) (acc : List Nat), ∃ t, befs acc l = acc ++ t
 | [], acc => ⟨[], by simp [befs]⟩
 | o :: r, acc => by
  obtain ⟨t, ht⟩ := befs_pre r (acc ++ [bits acc o.after.toList])
  exact ⟨bits acc o.after.toList :: t, by simp only [befs]; rw [ht]; simp⟩
theorem befs_at : ∀ (l : List Oper) (acc : List Nat) (i : Nat) (o : Oper), l[i]? = some o → ∃ acc', (∀ k, k < acc.length + i → nth acc' k 0 = nth (befs acc l) k 0) ∧ nth (befs acc l) (acc.length + i) 0 = bits acc' o.after.toList
 | [], acc, i, o, h => by simp at h
 | x :: r, acc, 0, o, h => by
  simp at h
  subst h
  obtain ⟨t, ht⟩ := befs_pre r (acc ++ [bits acc x.after.toList])
  refine ⟨acc, fun k hk => ?_, ?_⟩
  ·simp only [befs]
   rw [ht, List.append_assoc, nth_app_lt (by omega)]
  ·simp only [befs]
   rw [ht]
   simp [nth_eq, List.getD_eq_getElem?_getD]
 | x :: r, acc, i + 1, o, h => by
  obtain ⟨acc', h1, h2⟩ := befs_at r (acc ++ [bits acc x.after.toList]) i o (by simpa using h)
  simp only [List.length_append, List.length_cons, List.length_nil] at h1 h2
  refine ⟨acc', fun k hk => ?_, ?_⟩
  ·simp only [befs]; exact h1 k (by omega)
  ·simp only [befs]; rw [show acc.length + (i + 1) = acc.length + (0 + 1) + i by omega]; exact h2
theorem edges_lt : ∀ (l : List Oper) (i0 i : Nat) (o : Oper), edgesOk i0 l = true → l[i]? = some o → ∀ e ∈ o.after.toList, Region.binds .any e = true → e.on < i0 + i
 | [], i0, i, o, h, ho => by simp at ho
 | x :: r, i0, 0, o, h, ho => by
  simp at ho; subst ho
  simp only [edgesOk, Bool.and_eq_true, List.all_eq_true] at h
  intro e he hb
  have := h.1 e he
  rw [hb] at this
  simp only [Bool.not_true, Bool.false_or] at this
  have := blt_lt this
  omega
 | x :: r, i0, i + 1, o, h, ho => by
  simp only [edgesOk, Bool.and_eq_true] at h
  intro e he hb
  have := edges_lt r (i0 + 1) i o h.2 (by simpa using ho) e he hb
  omega
theorem listed_all {l : List Oper} (hl : edgesOk 0 l = true) {L : Nat → Prop} (hc : ∀ j o, L j → l[j]? = some o → ∀ e ∈ o.after.toList, Region.binds .any e = true → L e.on) :
  ∀ (n i : Nat), i < n → ∀ o, l[i]? = some o → (∀ e ∈ o.after.toList, Region.binds .any e = true → L e.on) → ∀ j, befB (befs [] l) i j = true → L j
 | 0, i, h => by omega
 | n + 1, i, h => by
  intro o ho hdir j hj
  unfold befB at hj
  obtain ⟨acc', h1, h2⟩ := befs_at l [] i o ho
  simp only [List.length_nil, Nat.zero_add] at h1 h2
  rw [h2] at hj
  obtain ⟨e, he, hb, hor⟩ := bits_mem hj
  have hlt := edges_lt l 0 i o hl ho e he hb
  rw [Nat.zero_add] at hlt
  rcases hor with rfl | hor
  ·exact hdir e he hb
  ·rw [h1 _ hlt] at hor
   have hil := (List.getElem?_eq_some_iff.1 ho).1
   have hoe : l[e.on]? = some (l[e.on]'(by omega)) := List.getElem?_eq_getElem _
   exact listed_all hl hc n e.on (by omega) _ hoe (hc _ _ (hdir e he hb) hoe) j hor
theorem tris_mem : ∀ (l : List Oper) (i0 id0 : Nat) (x : Tri), x ∈ tris E i0 id0 l → i0 ≤ x.i ∧ l[x.i - i0]? = some x.o ∧ (makes E x.o.op = true → id0 ≤ x.id ∧ x.id < id0 + nMakes E l)
 | [], i0, id0, x, h => by cases h
 | o :: r, i0, id0, x, h => by
  simp only [tris] at h
  rcases List.mem_cons.1 h with rfl | h
  ·refine ⟨Nat.le_refl _, by simp, fun hm => ?_⟩
   simp only at hm
   simp only [nMakes, hm, cond_true]
   omega
  ·obtain ⟨h1, h2, h3⟩ := tris_mem r _ _ x h
   refine ⟨by omega, ?_, fun hm => ?_⟩
   ·rw [show x.i - i0 = x.i - (i0 + 1) + 1 by omega]
    simpa using h2
   ·obtain ⟨h4, h5⟩ := h3 hm
    simp only [nMakes]
    cases hmk : makes E o.op with
    | true => rw [hmk] at h4 h5; simp only [cond_true] at h4 h5 ⊢; omega
    | false => rw [hmk] at h4 h5; simp only [cond_false] at h4 h5 ⊢; omega
theorem tris_get : ∀ (l : List Oper) (i0 id0 i : Nat) (o : Oper), l[i]? = some o → ∃ x ∈ tris E i0 id0 l, x.i = i0 + i ∧ x.o = o
 | [], i0, id0, i, o, h => by simp at h
 | x :: r, i0, id0, 0, o, h => by
  simp at h; subst h
  exact ⟨{ i := i0, id := id0, o := x }, by simp [tris], rfl, rfl⟩
 | x :: r, i0, id0, i + 1, o, h => by
  obtain ⟨y, h1, h2, h3⟩ := tris_get r (i0 + 1) (bif makes E x.op then id0 + 1 else id0) i o (by simpa using h)
  exact ⟨y, by simp only [tris]; exact List.mem_cons_of_mem _ h1, by omega, h3⟩
theorem tris_sorted : ∀ (l : List Oper) (i0 id0 : Nat), (tris E i0 id0 l).Pairwise fun x y => x.i < y.i
 | [], i0, id0 => .nil
 | o :: r, i0, id0 => by
  simp only [tris]
  refine List.Pairwise.cons (fun y hy => ?_) (tris_sorted r _ _)
  have := (tris_mem r _ _ y hy).1
  show i0 < y.i
  omega
theorem temps_pair : ∀ (l : List Tri), tempsB ops bef l = true → l.Pairwise fun x y => befB bef y.i x.i = true ∨ x.o.apart ops y.o = true
 | [], _ => .nil
 | x :: r, h => by
  simp only [tempsB, Bool.and_eq_true, List.all_eq_true, Bool.or_eq_true] at h
  exact List.Pairwise.cons (fun y hy => h.1 y hy) (temps_pair r h.2)
def Inv (E : Env) (σ0 : Sg) (st0 : St E.T) (w0 : World) (k : Nat) (fr : Fr E.T) (st : St E.T) (a : Act) (w : World) : Prop :=
 ∃ σ, Mf σ0 σ st0 st w0 w ∧ FrRep E σ st w fr a ∧ st0.length + k ≤ st.length ∧ ∀ id, st0.length ≤ id → id < st0.length + k → nth? st id = some .dead → blk (σ id) = none
theorem does_ok (HS : Sound P E) (HC : CallOk P E S) {x : Tri} {e : Eff E.T} {en : Option Ent} {σ0 : Sg} {st0 : St E.T} {w0 : World} {k : Nat} (hinv : Inv E σ0 st0 w0 k fr st a w) (h : Does S fx ops x fr st e en) (hi : ops[x.i]? = some x.o)
  (hid : makes E x.o.op = true → st0.length ≤ x.id ∧ x.id < st0.length + k)
  (hK : ∀ fr1 st1 a' w', applyE E fr st x.o.dst e = .next fr1 st1 → Inv E σ0 st0 w0 k fr1 st1 a' w' → K a' w')
  (hP : ∀ v fr1 st1 σ' w' u, applyE E fr st x.o.dst e = .panic v fr1 st1 → Mf σ0 σ' st0 st1 w0 w' → FrRep E σ' st1 w' fr1 a → VRep E σ' st1 w' (MB σ' st1) v u → Q (.panic [{ v := u, recovered := false }]) a w') :
  wpOp P ops Q x.i K a w := by
 obtain ⟨σ, m, hfr, hlen, hdead⟩ := hinv
 unfold wpOp
 rw [hi]
 have hwant : ∀ {b : Bool}, wantD E ops.toList x.o fr = some b → Region.wanted x.o (yielded ops a.tmps) = b := by
  intro b hb
  unfold wantD at hb
  unfold Region.wanted
  split at hb
  ·rename_i hg; rw [hg]; cases hb; rfl
  ·rename_i j c hg
   rw [hg]
   split at hb
   ·rename_i t ht
    split at hb
    ·rename_i c' hc
     have hs := slot_bool hfr hc
     unfold guardTmp at ht
     split at ht
     ·rename_i oj hj
      rw [nth?_eq, Array.getElem?_toList] at hj
      have hy : yielded ops a.tmps j = some c' := by
       unfold yielded
       rw [hj]
       simp only [Option.bind_some, ht, hs]
      simp only
      rw [hy]
      cases hb
      have : ∀ (p q : Bool), (some p == some q) = (p == q) := by intro p q; cases p <;> cases q <;> rfl
      exact this c' c
     ·cases ht
    ·rename_i hn
     cases hb
     show (yielded ops a.tmps j == some c) = false
     rw [slot_none hfr ht hn]; rfl
    ·cases hb
   ·cases hb
 rcases h with ⟨h1, h2, h3, h4⟩ | ⟨h1, h2, h3⟩
 ·simp only
  rw [if_pos (hwant h1)]
  left
  cases hm : makes E x.o.op with
  | false =>
   refine eff_ok HS HC m.rep hfr hm h2 ?_
   cases hap : applyE E fr st x.o.dst e with
   | next fr1 st1 =>
    intro σ' w' a' m' hfr'
    refine hK fr1 st1 a' w' hap ⟨σ', m.trans m', hfr', Nat.le_trans hlen m'.stay.len, fun id h5 h6 h7 => ?_⟩
    have hlt : id < st.length := by omega
    have hget : nth? st id = some st[id] := by rw [nth?_eq]; exact List.getElem?_eq_getElem hlt
    obtain ⟨ob', h8, t, _⟩ := m'.stay.kind id _ hget
    rw [h7] at h8
    cases h8
    have hd : st[id] = .dead := by
     generalize st[id] = ob at t
     cases t; rfl
    rw [hd] at hget
    rw [m'.stay.same id _ hget rfl]
    exact hdead id h5 h6 hget
   | panic v fr1 st1 =>
    intro σ' w' u m' hfr' hv
    exact hP v fr1 st1 σ' w' u hap (m.trans m') hfr' hv
  | true =>
   obtain ⟨h5, h6⟩ := hid hm
   have hM := deff_mov (by
    generalize x.o.op = oo at hm
    cases oo <;> first | rfl | cases hm) h2
   have hdd : nth? st x.id = some .dead := by
    rcases hM.ups with h | ⟨ob, _, h, _⟩
    ·exfalso
     generalize x.o.op = oo at hm h2
     cases oo with
     | alloc t =>
      simp only [deff] at h2
      split at h2
      ·cases h2
      ·obtain ⟨_, h2⟩ := Tree.get_need h2; cases h2; cases h
     | box t v => simp only [deff] at h2; obtain ⟨_, h2⟩ := Tree.get_need h2; cases h2; cases h
     | makeSlice t l c =>
      simp only [deff] at h2
      obtain ⟨p, _, h2⟩ := Tree.get_bind_some h2
      split at h2
      ·obtain ⟨_, h2⟩ := Tree.get_need h2; cases h2; cases h
      ·cases h2
     | convert s d y =>
      simp only [deff] at h2
      split at h2
      ·split at h2
       ·obtain ⟨_, h2⟩ := Tree.get_need h2; cases h2; cases h
       ·cases h2
      ·have hs : ∃ e', E.tk d = .data (.slice e') := by
        simp only [makes, isSl] at hm
        split at hm
        ·exact ⟨_, by assumption⟩
        ·cases hm
       obtain ⟨e', he'⟩ := hs
       simp only [dval, he'] at h2
       cases h2
     | _ => cases hm
    ·exact h
   refine maker_ok HS m.rep hfr hm h2 (hdead _ h5 h6 hdd) m h5 (fun σ' w' a' v ob g1 g2 g3 g4 m' hn hfr' => ?_)
   have hap : applyE E fr st x.o.dst e = .next (put E fr x.o.dst v) (upd st x.id ob) := by
    rw [apply_mov g1 g3 g4, g2]; rfl
   refine hK _ _ a' w' hap ⟨σ', m', hfr', by rw [length_upd]; exact hlen, fun id h7 h8 h9 => ?_⟩
   by_cases hidx : id = x.id
   ·subst hidx
    rw [nth?_upd, if_pos ⟨rfl, nth?_lt hdd⟩] at h9
    cases h9
    rcases hM.ups with h | ⟨ob2, h10, _, h11, _⟩
    ·rw [g2] at h; cases h
    ·rw [g2] at h10; cases h10; cases h11
   ·rw [nth?_upd, if_neg (fun h => hidx h.1.symm)] at h9
    rw [hn id hidx]
    exact hdead id h7 h8 h9
 ·subst h2
  simp only
  rw [if_neg (by rw [hwant h1]; simp)]
  exact hK _ _ _ _ rfl ⟨σ, m, put_ok hfr x.o.dst (.tup [] [] .nil), hlen, hdead⟩
theorem clear_ok : ∀ (l : List Oper) {fr : Fr E.T}, FrRep E σ st w fr a → FrRep E σ st w (clearDst E fr l) a
 | [], fr, h => h
 | o :: r, fr, h => by
  simp only [clearDst]
  refine clear_ok r ⟨?_, ?_⟩
  ·cases hd : o.dst with
   | none => exact h.s
   | some t =>
    have : ∀ {ds : List (DVal E.T)} {us : List Value}, VReps E σ st w (MB σ st) ds us → ∀ t, VReps E σ st w (MB σ st) (upd ds t .undef) us := by
     intro ds us h
     induction ds generalizing us with
     | nil => intro t; exact h
     | cons v r ih =>
      intro t
      cases h with
      | cons v r u us h h' =>
       cases t with
       | zero => exact .cons _ _ _ _ (.undef _) h'
       | succ t => exact .cons _ _ _ _ h (ih h' t)
    exact this h.s t
  ·cases hd : o.dst <;> exact h.d
theorem getD_set {l : Array Bool} {i j : Nat} {d : Bool} : (l.setIfInBounds i true).getD j d = if i = j ∧ i < l.size then true else l.getD j d := by
 rw [Array.getD_eq_getD_getElem?, Array.getD_eq_getD_getElem?, Array.getElem?_setIfInBounds]
 by_cases h : i = j
 ·subst h
  by_cases h2 : i < l.size
  ·simp [h2]
  ·simp [h2]
 ·simp [h]
theorem any_ok (HS : Sound P E) (HC : CallOk P E S) {σ0 : Sg} {st0 : St E.T} {w0 : World} {k : Nat} {out : RgOut E} (hedge : edgesOk 0 ops.toList = true) (hk : k = nMakes E ops.toList)
  (hpair : (tris E 0 st0.length ops.toList).Pairwise fun x y => befB (befs [] ops.toList) y.i x.i = true ∨ x.o.apart ops y.o = true) (hp : PostR E σ0 st0 w0 Q out) :
  ∀ (fuel : Nat) (listed : Array Bool) (l : List Tri) {fr : Fr E.T} {st : St E.T} {a : Act} {w : World} {log : List (Nat × Ent)}, listed.size = ops.size → (∀ x, x ∈ l ↔ x ∈ tris E 0 st0.length ops.toList ∧ listed.getD x.i true = false) → l.Sublist (tris E 0 st0.length ops.toList) → l.length ≤ fuel →
   (∀ j o, listed.getD j false = true → ops.toList[j]? = some o → ∀ e ∈ o.after.toList, Region.binds .any e = true → listed.getD e.on false = true) →
   GoodRun S fx (befs [] ops.toList) ops l fr st out log → Inv E σ0 st0 w0 k fr st a w → wpAny P .any ops Q fuel listed a w := by
 intro fuel
 have done : ∀ (listed : Array Bool) (l : List Tri), listed.size = ops.size → (∀ x, x ∈ l ↔ x ∈ tris E 0 st0.length ops.toList ∧ listed.getD x.i true = false) → l.Sublist (tris E 0 st0.length ops.toList) → Region.ready .any ops listed = [] → l = [] := by
  intro listed l hsz hmem hsub hr
  cases l with
  | nil => rfl
  | cons x r =>
   exfalso
   obtain ⟨h1, h2⟩ := (hmem x).1 (by simp)
   obtain ⟨_, h3, _⟩ := tris_mem _ _ _ x h1
   rw [Nat.sub_zero] at h3
   have : x.i ∈ Region.ready .any ops listed := by
    rw [mem_ready]
    refine ⟨h2, x.o, by rw [← Array.getElem?_toList]; exact h3, fun e he hb => ?_⟩
    have hlt := edges_lt _ 0 _ _ hedge h3 e (by simpa using he) hb
    rw [Nat.zero_add] at hlt
    have hxi := (List.getElem?_eq_some_iff.1 h3).1
    rw [Array.length_toList] at hxi
    cases hq : listed.getD e.on false with
    | true => rfl
    | false =>
     have hq' : listed.getD e.on true = false := by
      have hs : e.on < listed.size := by omega
      simp [hs] at hq ⊢
      exact hq
     obtain ⟨z, hz1, hz2, hz3⟩ := tris_get (E := E) ops.toList 0 st0.length e.on _ (List.getElem?_eq_getElem (by rw [Array.length_toList]; omega))
     rw [Nat.zero_add] at hz2
     have hz : z ∈ x :: r := (hmem z).2 ⟨hz1, by rw [hz2]; exact hq'⟩
     have hso := List.Pairwise.sublist hsub (tris_sorted (E := E) ops.toList 0 st0.length)
     rcases List.mem_cons.1 hz with rfl | hz
     ·omega
     ·have := (List.pairwise_cons.1 hso).1 z hz
      omega
   rw [hr] at this
   cases this
 have last : ∀ {fr : Fr E.T} {st : St E.T} {a : Act} {w : World} {log : List (Nat × Ent)}, GoodRun S fx (befs [] ops.toList) ops [] fr st out log → Inv E σ0 st0 w0 k fr st a w → Q .normal a w := by
  intro fr st a w log hg hinv
  cases hg
  obtain ⟨σ, m, hfr, _⟩ := hinv
  exact hp σ w a m hfr
 induction fuel with
 | zero =>
  intro listed l fr st a w log hsz hmem hsub hl hc hg hinv
  have hl0 : l = [] := List.eq_nil_of_length_eq_zero (Nat.le_zero.1 hl)
  subst hl0
  refine ⟨?_, last hg hinv⟩
  cases hr : Region.ready .any ops listed with
  | nil => rfl
  | cons i r =>
   exfalso
   have : i ∈ Region.ready .any ops listed := by rw [hr]; simp
   rw [mem_ready] at this
   obtain ⟨h1, o, h2, h3⟩ := this
   obtain ⟨z, hz1, hz2, hz3⟩ := tris_get (E := E) ops.toList 0 st0.length i o (by rw [Array.getElem?_toList]; exact h2)
   rw [Nat.zero_add] at hz2
   have := (hmem z).2 ⟨hz1, by rw [hz2]; exact h1⟩
   cases this
 | succ fuel ih =>
  intro listed l fr st a w log hsz hmem hsub hl hc hg hinv
  refine ⟨fun hr => ?_, fun i hi => ?_⟩
  ·have := done listed l hsz hmem hsub hr
   subst this
   exact last hg hinv
  ·rw [mem_ready] at hi
   obtain ⟨h1, o, h2, h3⟩ := hi
   have h2' : ops.toList[i]? = some o := by rw [Array.getElem?_toList]; exact h2
   obtain ⟨y, hy1, hy2, hy3⟩ := tris_get (E := E) ops.toList 0 st0.length i o h2'
   rw [Nat.zero_add] at hy2
   have hyl : y ∈ l := (hmem y).2 ⟨hy1, by rw [hy2]; exact h1⟩
   obtain ⟨pre, post, rfl⟩ := List.append_of_mem hyl
   have hso := List.Pairwise.sublist hsub (tris_sorted (E := E) ops.toList 0 st0.length)
   have hpa := List.Pairwise.sublist hsub hpair
   have hni : i < listed.size := by
    have := (List.getElem?_eq_some_iff.1 h2').1
    rw [Array.length_toList] at this
    omega
   have hunl : ∀ x, x ∈ pre ++ y :: post → listed.getD x.i false = false := by
    intro x hx
    have := ((hmem x).1 hx).2
    have hxs : x.i < listed.size := by
     rcases Nat.lt_or_ge x.i listed.size with h | h
     ·exact h
     ·simp [Array.getD_eq_getD_getElem?, Array.getElem?_eq_none h] at this
    simp [hxs] at this ⊢
    exact this
   have hnb : ∀ x ∈ pre, befB (befs [] ops.toList) y.i x.i = false ∧ x.o.apart ops y.o = true := by
    intro x hx
    have hb : befB (befs [] ops.toList) y.i x.i = false := by
     cases hq : befB (befs [] ops.toList) y.i x.i with
     | false => rfl
     | true =>
      have := listed_all hedge (L := fun j => listed.getD j false = true) (fun j o' hj ho' e he hb => hc j o' hj ho' e he hb) (i + 1) i (by omega) o h2' (fun e he hb => h3 e (by simpa using he) hb) x.i (by rw [← hy2]; exact hq)
      have h5 := hunl x (by simp [hx])
      rw [this] at h5; cases h5
    refine ⟨hb, ?_⟩
    have := (List.pairwise_append.1 hpa).2.2 x hx y (by simp)
    rw [hb] at this
    exact this.resolve_left (by simp)
   have hdst : ∀ x ∈ pre ++ y :: post, ∃ o ∈ ops.toList, o.dst = x.o.dst := by
    intro x hx
    obtain ⟨_, h5, _⟩ := tris_mem _ _ _ x ((hmem x).1 hx).1
    exact ⟨x.o, List.mem_of_getElem? h5, rfl⟩
   have hyo : ops[y.i]? = some y.o := by rw [hy2, hy3]; exact h2
   have hyid : makes E y.o.op = true → st0.length ≤ y.id ∧ y.id < st0.length + k := by
    intro hm
    have := (tris_mem _ _ _ y hy1).2.2 hm
    rw [hk]; exact this
   have hmem' : ∀ x, x ∈ pre ++ post ↔ x ∈ tris E 0 st0.length ops.toList ∧ (listed.setIfInBounds i true).getD x.i true = false := by
    intro x
    rw [getD_set]
    constructor
    ·intro hx
     have hx2 : x ∈ pre ++ y :: post := by
      rcases List.mem_append.1 hx with hx | hx
      ·simp [hx]
      ·simp [hx]
     obtain ⟨h5, h6⟩ := (hmem x).1 hx2
     refine ⟨h5, ?_⟩
     have hne : i ≠ x.i := by
      rw [← hy2]
      have hpw := List.pairwise_append.1 hso
      rcases List.mem_append.1 hx with hx | hx
      ·have := hpw.2.2 x hx y (by simp); omega
      ·have := (List.pairwise_cons.1 hpw.2.1).1 x hx; omega
     rw [if_neg (fun h => hne h.1)]
     exact h6
    ·rintro ⟨h5, h6⟩
     by_cases hne : i = x.i
     ·rw [if_pos ⟨hne, hni⟩] at h6; cases h6
     ·rw [if_neg (fun h => hne h.1)] at h6
      have := (hmem x).2 ⟨h5, h6⟩
      rcases List.mem_append.1 this with h | h
      ·simp [h]
      ·rcases List.mem_cons.1 h with rfl | h
       ·exact absurd hy2.symm hne
       ·simp [h]
   have hsub' : (pre ++ post).Sublist (tris E 0 st0.length ops.toList) := List.Sublist.trans (List.Sublist.append (List.Sublist.refl pre) (List.sublist_cons_self y post)) hsub
   have hlen' : (pre ++ post).length ≤ fuel := by simp at hl ⊢; omega
   have hc' : ∀ j o, (listed.setIfInBounds i true).getD j false = true → ops.toList[j]? = some o → ∀ e ∈ o.after.toList, Region.binds .any e = true → (listed.setIfInBounds i true).getD e.on false = true := by
    intro j o' hj ho' e he hb
    rw [getD_set] at hj ⊢
    by_cases hij : i = j
    ·subst hij
     rw [h2'] at ho'
     cases ho'
     have := h3 e (by simpa using he) hb
     by_cases h : i = e.on ∧ i < listed.size
     ·rw [if_pos h]
     ·rw [if_neg h]; exact this
    ·rw [if_neg (fun h => hij h.1)] at hj
     have := hc j o' hj ho' e he hb
     by_cases h : i = e.on ∧ i < listed.size
     ·rw [if_pos h]
     ·rw [if_neg h]; exact this
   have hsz' : (listed.setIfInBounds i true).size = ops.size := by simpa using hsz
   rw [← hy2]
   rcases front pre hg hnb hdst with ⟨e, en, fr1, st1, log1, g1, g2, g3, _, _⟩ | ⟨v, e, en, fr1, st1, g1, g2, g3, _⟩ | ⟨g1, g2⟩
   ·refine does_ok HS HC hinv g1 hyo hyid (fun fr1' st1' a' w' hap hinv' => ?_) (fun v fr1' st1' σ' w' u hap => by rw [g2] at hap; cases hap)
    rw [g2] at hap
    cases hap
    rw [hy2]
    exact ih _ _ hsz' hmem' hsub' hlen' hc' g3 hinv'
   ·refine does_ok HS HC hinv g1 hyo hyid (fun fr1' st1' a' w' hap => by rw [g2] at hap; cases hap) (fun v' fr1' st1' σ' w' u hap m' hfr' hv => ?_)
    rw [g2] at hap
    cases hap
    rw [g3] at hp
    exact hp σ' w' a u m' (clear_ok _ hfr') hv
   ·obtain ⟨e, v, en, hd, hap⟩ := move_does (E := E) (S := S) (fx := fx) (all := ops) g1 fr st
    refine does_ok HS HC hinv hd hyo hyid (fun fr1' st1' a' w' hap' hinv' => ?_) (fun v' fr1' st1' σ' w' u hap' => by rw [hap] at hap'; cases hap')
    rw [hap] at hap'
    cases hap'
    rw [hy2]
    exact ih _ _ hsz' hmem' hsub' hlen' hc' (g2 v) hinv'
theorem deads : ∀ (k : Nat) {σ : Sg} {st : St E.T} {w : World}, StRep E σ st w → ∃ σ', Mv σ σ' st (st ++ List.replicate k .dead) w w ∧ ∀ id, st.length ≤ id → id < st.length + k → blk (σ' id) = none
 | 0, σ, st, w, hst => ⟨σ, by simpa using Mv.refl hst, fun id h1 h2 => by omega⟩
 | k + 1, σ, st, w, hst => by
  have m1 := Mv.push0 hst (.tuple #[]) (.dead : Obj E.T) rfl (fun _ _ _ _ => .dead _)
  obtain ⟨σ', m2, h⟩ := deads k m1.rep
  refine ⟨σ', ?_, fun id h1 h2 => ?_⟩
  ·have := m1.trans m2
   rw [List.append_assoc] at this
   rw [List.replicate_succ]
   exact this
  ·by_cases hid : id = st.length
   ·subst hid
    rw [m2.name _ (by simp), setN_at]
    rfl
   ·exact h id (by simp; omega) (by simp; omega)
theorem dregion_ok (HS : Sound P E) (HC : CallOk P E S) (hmix : P.follows .mixedOrders = true) {id : Nat} {out : RgOut E} (hst : StRep E σ st w) (hfr : FrRep E σ st w fr a) (h : (dregion E S ops fr st).get = some out) (hp : PostR E σ st w Q out) :
  (Code.region id ops true).wp P Q a w := by
 unfold dregion at h
 obtain ⟨hb, h⟩ := Tree.get_need h
 rw [Bool.and_eq_true] at hb
 obtain ⟨log, hg, _⟩ := drun_good _ h
 rw [addNew_eq] at hg
 refine wp_region_any hmix ?_
 have m0 := Mv.drawn hst (w.drawn + 1)
 obtain ⟨σ', m1, hno⟩ := deads (nMakes E ops.toList) m0.rep
 have m := m0.trans m1
 refine any_ok HS HC hb.1 rfl (temps_pair _ hb.2) hp ops.size _ _ (by simp) (fun x => ?_) (List.Sublist.refl _) ?_ (fun j o hj => ?_) hg ⟨σ', m.f, hfr.mv m, by simp, fun id h1 h2 _ => hno id h1 h2⟩
 ·constructor
  ·intro hx
   refine ⟨hx, ?_⟩
   obtain ⟨_, h3, _⟩ := tris_mem _ _ _ x hx
   have := (List.getElem?_eq_some_iff.1 h3).1
   rw [Array.length_toList, Nat.sub_zero] at this
   simp [this]
  ·exact fun hx => hx.1
 ·have : ∀ (l : List Oper) (i0 id0 : Nat), (tris E i0 id0 l).length = l.length := by
   intro l
   induction l with
   | nil => intro i0 id0; rfl
   | cons o r ih => intro i0 id0; simp [tris, ih]
  rw [this, Array.length_toList]
  exact Nat.le_refl _
 ·exfalso
  rw [Array.getD_eq_getD_getElem?, Array.getElem?_replicate] at hj
  split at hj <;> cases hj
end
end
open Go
noncomputable section
section
variable {P : Program} {E : Env} {w w' w'' : World} {σ σ' σ'' : Sg} {st st' st'' : St E.T} {M M' : Nat → Prop}
variable {a : Act} {fr fr' : Fr E.T}
theorem VTs.updAt (j : Nat) : ∀ (j : Nat) {ts : List Ty} {fs : List (DVal E.T)} {cs : List Value}, VTs E σ st w M ts fs cs → ∀ {t : Ty} {v : DVal E.T}, nth? ts j = some t → nth? fs j = some v →
  ∃ c, VT E σ st w M t v c ∧ ∀ {σ' : Sg} {st' : St E.T} {w' : World} {M' : Nat → Prop} (v' : DVal E.T), Kept M M' w w' → (∀ k ∈ refsL fs, Same σ σ' st st' k) → VT E σ' st' w' M' t v' c → VTs E σ' st' w' M' ts (upd fs j v') cs
 | _, _, _, _, .nil, _, _, h, _ => by cases h
 | 0, _, _, _, .cons t ts v r c1 c2 h h', _, _, ht, hv => by
  simp only [nthq_nil, nthq_zero, nthq_succ, Option.some.injEq] at ht hv
  subst ht; subst hv
  exact ⟨c1, h, fun v' kp hs hv' => .cons _ _ _ _ _ _ hv' (VTs.keep kp h' (fun k hk => hs k (by simp [refsL, hk])))⟩
 | j + 1, _, _, _, .cons t ts v r c1 c2 h h', _, _, ht, hv => by
  simp only [nthq_nil, nthq_zero, nthq_succ] at ht hv
  obtain ⟨c, hc, hf⟩ := VTs.updAt 0 j h' ht hv
  exact ⟨c, hc, fun v' kp hs hv' => .cons _ _ _ _ _ _ (VT.keep kp h (fun k hk => hs k (by simp [refsL, hk]))) (hf v' kp (fun k hk => hs k (by simp [refsL, hk])) hv')⟩
theorem proV_ok {k : Nat} {e : Ty} : ∀ (p : List Nat) {ot : Option Ty} {t : Ty} {v v' : DVal E.T} {cs : List Value}, VT E σ st w M t v cs → (∀ t0, ot = some t0 → t0 = t) → proV E k e p ot v = some v' →
  ∃ a, ∀ {σ' : Sg} {st' : St E.T} {w' : World} {M' : Nat → Prop}, σ' k = .slice a 0 0 → nth? st' k = some (.arr .live e []) → Kept M M' w w' → (∀ j ∈ refs v, Same σ σ' st st' j) →
   ∃ t', isAggTy t' = isAggTy t ∧ (∀ t0, ot = some t0 → t' = t) ∧ VT E σ' st' w' M' t' v' cs
 | [], ot, t, v, v', cs, h, ho, hp => by
  cases v with
  | nils =>
   cases h with
   | nils e0 a =>
    refine ⟨a, fun h1 h2 kp hs => ?_⟩
    cases ot with
    | none =>
     cases hp
     refine ⟨.slice e, rfl, ?_, ?_⟩
     ·intro t0 h; cases h
     have := VT.own (σ := ‹Sg›) (w := ‹World›) (M := ‹Nat → Prop›) k .live e [] h2
     rwa [h1] at this
    | some t0 =>
     have ht0 := ho t0 rfl
     subst ht0
     simp only [proV] at hp
     cases hb : tyEqb (.slice e0) (.slice e) with
     | false => rw [hb] at hp; cases hp
     | true =>
      rw [hb] at hp
      cases hp
      have := tyEqb_eq hb
      cases this
      refine ⟨_, rfl, fun _ _ => rfl, ?_⟩
      have := VT.own (σ := ‹Sg›) (w := ‹World›) (M := ‹Nat → Prop›) k .live e [] h2
      rwa [h1] at this
  | _ => simp only [proV] at hp; cases hp
 | j :: p, ot, t, v, v', cs, h, ho, hp => by
  cases v with
  | agg i fs =>
   cases h with
   | agg i fs cs hs =>
    simp only [proV] at hp
    split at hp
    ·rename_i tj vj htj hvj
     split at hp
     ·rename_i vj' hvj'
      cases hp
      obtain ⟨c, hc, hf⟩ := VTs.updAt 0 j hs htj hvj
      obtain ⟨a, ha⟩ := proV_ok p hc (fun t0 h => by cases h; rfl) hvj'
      refine ⟨a, fun h1 h2 kp hsm => ?_⟩
      have hsm' : ∀ k ∈ refsL fs, Same _ _ _ _ k := fun k hk => hsm k (by simpa [refs] using hk)
      have hmem : ∀ (l : List (DVal E.T)) (j : Nat) (v : DVal E.T), nth? l j = some v → ∀ k ∈ refs v, k ∈ refsL l := by
       intro l
       induction l with
       | nil => intro j v h; cases h
       | cons x l ih =>
        intro j v h k hk
        cases j with
        | zero => simp only [nthq_nil, nthq_zero, nthq_succ, Option.some.injEq] at h; subst h; simp [refsL, hk]
        | succ j => simp [refsL, ih j v h k hk]
      obtain ⟨t', h3, h4, h5⟩ := ha h1 h2 kp (fun q hq => hsm' q (hmem fs j vj hvj q hq))
      rw [h4 tj rfl] at h5
      exact ⟨_, rfl, fun _ _ => rfl, .agg i _ cs (hf _ kp hsm' h5)⟩
     ·cases hp
    ·cases hp
  | _ => simp only [proV] at hp; cases hp
theorem VTs.updD {f : DVal E.T → DVal E.T} (hf : ∀ t v c, VT E σ st w M t v c → VT E σ st w M t (f v) c) : ∀ (j : Nat) {ts : List Ty} {fs : List (DVal E.T)} {cs : List Value}, VTs E σ st w M ts fs cs → VTs E σ st w M ts (upd fs j (f (nth fs j .undef))) cs
 | _, _, _, _, .nil => .nil
 | 0, _, _, _, .cons t ts v r c1 c2 h h' => .cons _ _ _ _ _ _ (hf _ _ _ h) h'
 | j + 1, _, _, _, .cons t ts v r c1 c2 h h' => .cons _ _ _ _ _ _ h (VTs.updD hf j h')
theorem VT.datAt (ok : EnvOk E) (hst : StRep E σ st w) : ∀ (p : List Nat) {t : Ty} {v : DVal E.T} {cs : List Value}, VT E σ st w (MB σ st) t v cs → VT E σ st w (MB σ st) t (D.datAt E st p v) cs
 | [], t, v, cs, h => VT.dat ok hst 0 h
 | j :: p, t, v, cs, h => by
  cases h with
  | agg i fs cs hs => unfold D.datAt; exact .agg i _ cs (VTs.updD (fun t v c h => VT.datAt ok hst p h) j hs)
  | val t x cs h => unfold D.datAt; exact .val t x cs h
  | nils e a => unfold D.datAt; exact .nils e a
  | own k l e xs h => unfold D.datAt; exact .own k l e xs h
  | stale e v h => unfold D.datAt; exact .stale e v h
theorem VRep.datAt (ok : EnvOk E) (hst : StRep E σ st w) (p : List Nat) {v : DVal E.T} {u : Value} (h : VRep E σ st w (MB σ st) v u) : VRep E σ st w (MB σ st) (D.datAt E st p v) u := by
 cases p with
 | nil => exact VRep.dat ok hst 0 h
 | cons j p =>
  cases h with
  | data t d cs h => exact .data t _ cs (VT.datAt ok hst (j :: p) h)
  | undef => exact .undef _
  | ptr o p b h hl => exact .ptr o p b h hl
  | nilptr => exact .nilptr
  | rptr t x a cs h hm => exact .rptr t x a cs h hm
  | tup vs us h => exact .tup vs us h
  | fn f vs us h => exact .fn f vs us h
  | nilfn => exact .nilfn
  | ifc t d v h => exact .ifc t d v h
  | nilifc => exact .nilifc
theorem datAt_sing (p : List Nat) {d : DVal E.T} (h : sing E d = true) : datAt E st p d = d := by
 cases p with
 | nil => exact dat_sing 0 h
 | cons j p => cases d <;> first | (cases h; done) | rfl
theorem VReps.updSame : ∀ (t : Nat) {ds : List (DVal E.T)} {us : List Value}, VReps E σ st w M ds us → ∀ {v' : DVal E.T}, (∀ u, VRep E σ st w M (D.nth ds t .undef) u → VRep E σ st w M v' u) → VReps E σ st w M (D.upd ds t v') us
 | _, _, _, .nil, _, _ => .nil
 | 0, _, _, .cons v r u us h h', _, hv => .cons _ _ _ _ (hv _ h) h'
 | t + 1, _, _, .cons v r u us h h', _, hv => .cons _ _ _ _ h (VReps.updSame t h' hv)
theorem VReps.updGet : ∀ (t : Nat) {ds : List (DVal E.T)} {us : List Value}, VReps E σ st w M ds us → ∀ {v : DVal E.T} {u : Value}, us[t]? = some u → VRep E σ st w M v u → VReps E σ st w M (D.upd ds t v) us
 | _, _, _, .nil, _, _, _, _ => .nil
 | 0, _, _, .cons v r u us h h', _, _, hu, hv => by
  simp only [List.getElem?_cons_zero, Option.some.injEq] at hu
  subst hu
  exact .cons _ _ _ _ hv h'
 | t + 1, _, _, .cons v r u us h h', _, _, hu, hv => .cons _ _ _ _ h (VReps.updGet t h' (by simpa using hu) hv)
theorem Mv.box (hst : StRep E σ st w) {o : Nat} {ro : Bool} {c c' : DVal E.T} (ho : nth? st o = some (.box ro c))
  (h1 : ∀ b cc el fr t, σ o = .pointer (some ⟨b, 0, none⟩) → w.heap[b]? = some (.cells cc el fr) → VT E σ st w (MB σ st) t c cc.toList → ∃ t', VT E σ st w (MB σ st) t' c' cc.toList) (h2 : sing E c = true → c' = c) :
  Mv σ σ st (D.upd st o (.box ro c')) w w := by
 have hM : ∀ b, MB σ (D.upd st o (.box ro c')) b → MB σ st b := fun b hb => MB_upd (ob' := .box ro c') ho (fun h => h) hb
 have hsame : ∀ k, Same σ σ st (D.upd st o (.box ro c')) k := fun k => same_upd ho (Turn.box ro ro c c') k
 refine Mv.upd hst ho (Turn.box ro ro c c') id (fun h => h) w rfl rfl rfl rfl (fun _ _ => rfl) ?_
 have hob := ObRep.keep (Kept.weaken (M' := MB σ (D.upd st o (.box ro c'))) hM) (fun _ _ => rfl) (fun k _ => hsame k) (hst.obj o _ ho)
 have hob0 := hst.obj o _ ho
 have h1' := fun b cc el fr t => h1 b cc el fr t
 clear h1
 generalize σ o = u at hob hob0 h1' ⊢
 cases hob0 with
 | box ro d b cc el fr hh hf hc =>
  refine .box ro _ b cc el fr hh hf ?_
  rcases hc with ⟨t, ht⟩ | ⟨hs, v, hv, hone, hr⟩
  ·obtain ⟨t', ht'⟩ := h1' b cc el fr t rfl hh ht
   exact .inl ⟨t', VT.keep (Kept.weaken hM) ht' (fun k _ => hsame k)⟩
  ·have e1 := h2 hs
   refine .inr ⟨by rw [e1]; exact hs, v, hv, hone, ?_⟩
   have := VRep.keep (Kept.weaken hM) hr (fun k _ => hsame k)
   rw [show c = c' from e1.symm] at this
   exact this
theorem proV_nsing {k : Nat} {e : Ty} {p : List Nat} {v v' : DVal E.T} (h : proV E k e p none v = some v') : sing E v = false := by
 cases p with
 | nil => cases v <;> first | rfl | (simp only [proV] at h; cases h)
 | cons j p => cases v <;> first | rfl | (simp only [proV] at h; cases h)
theorem upd_out {α : Type} : ∀ {l : List α} {n : Nat} {v : α}, l.length ≤ n → upd l n v = l
 | [], n, v, _ => by cases n <;> rfl
 | a :: l, 0, v, h => absurd h (by simp)
 | a :: l, n + 1, v, h => by simp only [upd_nil, upd_zero, upd_succ]; rw [upd_out (by simpa using h)]
theorem adj1_ok (ok : EnvOk E) (hst : StRep E σ st w) (hfr : FrRep E σ st w fr a) {x : Adj} (h : adj1 E x fr st = some (fr', st')) : ∃ σ', Mf σ σ' st st' w w ∧ FrRep E σ' st' w fr' a := by
 cases x with
 | frz o =>
  simp only [adj1, Option.some.injEq] at h
  cases h
  obtain ⟨m, _⟩ := freeze_ok [o] hst
  exact ⟨σ, m.f, hfr.mv m⟩
 | und t =>
  simp only [adj1, Option.some.injEq] at h
  cases h
  refine ⟨σ, Mf.refl hst, ?_, hfr.d⟩
  by_cases hlt : t < fr.s.length
  ·obtain ⟨u, hu, _⟩ := VReps.get hfr.s (nth_some (d := .undef) hlt)
   exact VReps.updGet t hfr.s hu (.undef _)
  ·have : upd fr.s t .undef = fr.s := upd_out (Nat.le_of_not_lt hlt)
   simp only [this]
   exact hfr.s
 | rd t =>
  simp only [adj1] at h
  split at h
  ·rename_i o hv
   split at h
   ·rename_i ro ty x ho
    simp only [Option.some.injEq] at h
    cases h
    have hlt : t < fr.s.length := by
     rcases Nat.lt_or_ge t fr.s.length with h | h
     ·exact h
     ·exfalso
      rw [nth_eq, List.getD_eq_getElem?_getD, List.getElem?_eq_none h] at hv
      cases hv
    obtain ⟨u, hu, hru⟩ := VReps.get hfr.s (nth_some (d := .undef) hlt)
    rw [hv] at hru
    have hob := hst.obj o _ ho
    have hr : ObRep E σ (upd st o (.box true (.val ty x))) w (MB σ (upd st o (.box true (.val ty x)))) (σ o) (.box true (.val ty x)) := by
     have := ObRep.keep (σ' := σ) (st' := upd st o (.box true (.val ty x))) (Kept.weaken (M' := MB σ (upd st o (.box true (.val ty x)))) (fun b h => MB_upd ho (fun h => by cases h) h)) (fun g _ => rfl) (fun j hj => same_upd ho (.box ro true (.val ty x) (.val ty x)) j) hob
     generalize σ o = s at this
     cases this with
     | box ro c b cc el fr h1 h2 h3 => exact .box true _ b cc el fr h1 h2 h3
    obtain ⟨hmv, hnot⟩ := Mv.calm hst ho (.box ro true (.val ty x) (.val ty x)) rfl rfl hr
    refine ⟨σ, hmv.f, ?_, (hfr.mv hmv).d⟩
    refine VReps.updGet t (hfr.mv hmv).s hu ?_
    cases hru with
    | data t' d cs hv => cases hv
    | ptr o p b hb hlo =>
     rcases getO_ok ok (p := []) (v := .val ty x) (ob := .box true (.val ty x)) rfl (fun h => by cases h) hr hb with ⟨t', c', hvt, hcell⟩ | ⟨y, _, hs, _⟩
     ·cases hvt with
      | val _ _ _ hc => exact .rptr ty x _ c' hc ⟨b, E.pathOff [], rfl, hnot b hb, blk_lt hst ho rfl hb, fun q v hq => hcell q v hq⟩
     ·cases hs
   ·simp only [Option.some.injEq] at h
    cases h
    exact ⟨σ, Mf.refl hst, hfr⟩
  ·simp only [Option.some.injEq] at h
   cases h
   exact ⟨σ, Mf.refl hst, hfr⟩
 | dat wh p =>
  simp only [adj1, Option.some.injEq] at h
  generalize hks : refs (subV E p (whrV E wh fr st)) = ks at h
  obtain ⟨m, _⟩ := freeze_ok ks hst
  have hst1 := m.rep
  have hfr1 := hfr.mv m
  cases wh with
  | slot t =>
   cases h
   exact ⟨σ, m.f, VReps.updSame t hfr1.s (fun u hu => VRep.datAt ok hst1 p hu), hfr1.d⟩
  | obj o =>
   simp only [whrPut] at h
   split at h
   ·rename_i ro c hc
    cases h
    have hc0 : whrV E (.obj o) fr st = c ∨ ∃ c0, nth? st o = some c0 := by
     right
     have hl := nth?_lt hc
     have : (freeze E st ks).length = st.length := by
      have := m.stay.len
      have h2 : ∀ (ks : List Nat) (s : St E.T), (freeze E s ks).length = s.length := by
       intro ks
       induction ks with
       | nil => intro s; rfl
       | cons k r ih => intro s; rw [freeze, ih]; split <;> simp [length_upd]
      exact h2 ks st
     rw [this] at hl
     exact ⟨st[o], by rw [nth?_eq]; exact List.getElem?_eq_getElem hl⟩
    have hcc : whrV E (.obj o) fr st = c := by
     rcases hc0 with h | ⟨c0, h0⟩
     ·exact h
     ·have h2 : ∀ (ks : List Nat) (s : St E.T) (ro : Bool) (c : DVal E.T), nth? s o = some (.box ro c) → nth? (freeze E s ks) o = some (.box ro c) := by
       intro ks
       induction ks with
       | nil => intro s ro c h; exact h
       | cons k r ih =>
        intro s ro c h
        rw [freeze]
        refine ih _ ro c ?_
        split
        ·rename_i l e xs hk
         rw [nth?_upd]
         by_cases hko : k = o
         ·subst hko; rw [h] at hk; cases hk
         ·rw [if_neg (fun h => hko h.1)]; exact h
        ·exact h
      obtain ⟨ob', h3, t3, _⟩ := m.stay.kind o c0 h0
      rw [hc] at h3
      cases h3
      cases t3 with
      | box ro0 ro' c0' c' =>
       have := h2 ks st ro0 c0' h0
       rw [hc] at this
       cases this
       simp only [whrV, h0]
    rw [hcc]
    have m2 : Mv σ σ (freeze E st ks) (upd (freeze E st ks) o (.box ro (datAt E (freeze E st ks) p c))) w w := Mv.box hst1 hc (fun _ _ _ _ t _ _ h => ⟨t, VT.datAt ok hst1 p h⟩) (fun hs => datAt_sing p hs)
    exact ⟨σ, (m.trans m2).f, hfr1.mv m2⟩
   ·cases h
    exact ⟨σ, m.f, hfr1⟩
 | pro wh p e =>
  simp only [adj1] at h
  split at h
  ·rename_i v hv
   simp only [Option.some.injEq] at h
   cases wh with
   | slot t =>
    simp only [whrV] at hv
    cases h
    have hlt : t < fr.s.length := by
     rcases Nat.lt_or_ge t fr.s.length with h | h
     ·exact h
     ·exfalso
      rw [nth_eq, List.getD_eq_getElem?_getD, List.getElem?_eq_none h] at hv
      cases p <;> (simp only [Option.getD_none, proV] at hv; cases hv)
    obtain ⟨u, hu, hru⟩ := VReps.get hfr.s (nth_some (d := .undef) hlt)
    have hns := proV_nsing hv
    generalize hvs : nth fr.s t .undef = vs at hv hru hns
    cases hru with
    | data ty d cs hvt =>
     obtain ⟨ad, had⟩ := proV_ok p hvt (fun _ h => by cases h) hv
     have mp := Mv.push0 (E := E) hst (.slice ad 0 0) (.arr .live e []) (by cases ad <;> rfl) (fun σ' st' w' M' => .arr .live e [] _ ⟨Nat.zero_le _, .inl ⟨⟨ad, rfl⟩, rfl⟩⟩)
     refine ⟨_, mp.f, ?_, (hfr.mv mp).d⟩
     refine VReps.updGet t (hfr.mv mp).s hu ?_
     obtain ⟨t', h3, _, h5⟩ := had (σ' := setN σ st.length (.slice ad 0 0)) (st' := st ++ [.arr .live e []]) (w' := w) (M' := MB (setN σ st.length (.slice ad 0 0)) (st ++ [.arr .live e []])) setN_at (by rw [nth?_append, if_pos rfl]) mp.keep.kept (fun j hj => mp.same j (VT.refs hvt j hj))
     have : toV ty cs = toV t' cs := by unfold toV; rw [h3]
     rw [this]
     exact .data t' _ cs h5
    | tup vs us h => cases p <;> (simp only [proV] at hv; cases hv)
    | _ => cases hns
   | obj o =>
    simp only [whrV] at hv
    split at hv
    ·rename_i ro c hc
     have ho := hst.obj o _ hc
     have hlo := nth?_lt hc
     generalize hso : σ o = so at ho
     cases ho with
     | box ro d b cc el frr hh hf hcc =>
      rcases hcc with ⟨ty, hvt⟩ | ⟨hs, _⟩
      ·obtain ⟨ad, had⟩ := proV_ok p hvt (fun _ h => by cases h) hv
       have mp := Mv.push0 (E := E) hst (.slice ad 0 0) (.arr .live e []) (by cases ad <;> rfl) (fun σ' st' w' M' => .arr .live e [] _ ⟨Nat.zero_le _, .inl ⟨⟨ad, rfl⟩, rfl⟩⟩)
       have hc1 : nth? (st ++ [Obj.arr .live e []]) o = some (.box ro c) := by rw [nth?_append, if_neg (Nat.ne_of_lt hlo)]; exact hc
       simp only [whrPut, hc1] at h
       cases h
       have m2 := Mv.box (c' := v) mp.rep hc1 (fun b' cc' el' fr' t hs' hh' _ => by
        rw [setN_ne (Nat.ne_of_lt hlo), hso] at hs'
        cases hs'
        rw [hh] at hh'
        cases hh'
        obtain ⟨t', _, _, h5⟩ := had (σ' := setN σ st.length (.slice ad 0 0)) (st' := st ++ [.arr .live e []]) (w' := w) (M' := MB (setN σ st.length (.slice ad 0 0)) (st ++ [.arr .live e []])) setN_at (by rw [nth?_append, if_pos rfl]) mp.keep.kept (fun j hj => mp.same j (VT.refs hvt j hj))
        exact ⟨t', h5⟩) (fun hs => by rw [proV_nsing hv] at hs; cases hs)
       exact ⟨_, (mp.trans m2).f, (hfr.mv mp).mv m2⟩
      ·rw [proV_nsing hv] at hs; cases hs
    ·cases p <;> (simp only [proV] at hv; cases hv)
  ·simp only [Option.some.injEq] at h
   cases h
   exact ⟨σ, Mf.refl hst, hfr⟩
theorem adjs_ok (ok : EnvOk E) : ∀ (l : List Adj) {fr fr' : Fr E.T} {st st' : St E.T} {σ : Sg}, StRep E σ st w → FrRep E σ st w fr a → adjs E l fr st = some (fr', st') → ∃ σ', Mf σ σ' st st' w w ∧ FrRep E σ' st' w fr' a
 | [], _, _, _, _, σ, hst, hfr, h => by
  simp only [adjs, Option.some.injEq] at h
  cases h
  exact ⟨σ, Mf.refl hst, hfr⟩
 | x :: l, _, _, _, _, σ, hst, hfr, h => by
  simp only [adjs] at h
  split at h
  ·rename_i p hp
   obtain ⟨σ1, m1, hf1⟩ := adj1_ok ok hst hfr hp
   obtain ⟨σ2, m2, hf2⟩ := adjs_ok ok l m1.rep hf1 h
   exact ⟨σ2, m1.trans m2, hf2⟩
  ·cases h
end
end
open Go
noncomputable section
section
variable {P : Program} {E : Env} {w w' w'' : World} {σ σ' σ'' : Sg} {st st' st'' : St E.T} {M M' : Nat → Prop}
variable {K : Act → World → Prop} {Q : Exit → Act → World → Prop} {a : Act} {fr fr1 : Fr E.T}
inductive ExitRep (E : Env) (σ : Sg) (st : St E.T) (w : World) : DExit E.T → Exit → Prop where
 | normal : ExitRep E σ st w .normal .normal
 | exit (id : Nat) : ExitRep E σ st w (.exit id) (.exit id)
 | ret : ExitRep E σ st w .ret .ret
 | panic (v : DVal E.T) (u : Value) (h : VRep E σ st w (MB σ st) v u) : ExitRep E σ st w (.panic v) (.panic [{ v := u, recovered := false }])
def PostC (E : Env) (σ : Sg) (st : St E.T) (w : World) (Q : Exit → Act → World → Prop) (out : CodeOut E) : Prop :=
 ∀ σ' w' a' x, Mf σ σ' st out.2.2 w w' → FrRep E σ' out.2.2 w' out.2.1 a' → ExitRep E σ' out.2.2 w' out.1 x → Q x a' w'
theorem PostC.later {out : CodeOut E} (m : Mf σ σ' st st' w w') (h : PostC E σ st w Q out) : PostC E σ' st' w' Q out :=
 fun σ'' w'' a' x m' => h σ'' w'' a' x (m.trans m')
theorem nth?_take {n o : Nat} (h : o < n) : nth? (st.take n) o = nth? st o := by
 simp only [nth?_eq]
 rw [List.getElem?_take_of_lt h]
theorem nth?_take_some {n o : Nat} {ob : Obj E.T} (h : nth? (st.take n) o = some ob) : o < n ∧ nth? st o = some ob := by
 have hl := nth?_lt h
 rw [List.length_take] at hl
 have : o < n := by omega
 rw [nth?_take this] at h
 exact ⟨this, h⟩
theorem take_MB {n b : Nat} (h : MB σ (st.take n) b) : MB σ st b := by
 rcases h with h | ⟨o, ob, ho, hm, hb⟩
 ·exact .inl h
 ·exact .inr ⟨o, ob, (nth?_take_some ho).2, hm, hb⟩
theorem take_same {n k : Nat} (h : k < n) : Same σ σ st (st.take n) k :=
 ⟨rfl, fun l e xs hh => ⟨l, xs, by rw [nth?_take h]; exact hh⟩, fun hl => by rw [List.length_take]; omega⟩
theorem take_rep {n : Nat} (hst : StRep E σ st w) (hr : ∀ k ∈ stRefs E (st.take n), k < n) : StRep E σ (st.take n) w := by
 refine ⟨fun o ob ho => ?_, fun o o' ob ob' b hne ho ho' => hst.apart o o' ob ob' b hne (nth?_take_some ho).2 (nth?_take_some ho').2, hst.amb, fun o ob b ho => hst.out o ob b (nth?_take_some ho).2⟩
 exact ObRep.keep (Kept.weaken fun b hb => take_MB hb) (fun _ _ => rfl) (fun k hk => take_same (hr k (mem_stRefs ho hk))) (hst.obj o ob (nth?_take_some ho).2)
theorem keepOnly_rep (ks : List Nat) : ∀ (i : Nat) {ds : List (DVal E.T)} {us : List Value}, VReps E σ st w M ds us → VReps E σ st w M (keepOnly E ks i ds) us
 | i, _, _, .nil => .nil
 | i, _, _, .cons v r u us h h' => by
  simp only [keepOnly]
  refine .cons _ _ _ _ ?_ (keepOnly_rep ks (i + 1) h')
  cases memB ks i with
  | true => exact h
  | false => exact .undef _
theorem Mf.take (m : Mf σ σ' st st' w w') (hr : StRep E σ' (st'.take st.length) w') : Mf σ σ' st (st'.take st.length) w w' :=
 ⟨hr, ⟨m.keep.os, m.keep.tape, m.keep.output, m.keep.size, m.keep.block, fun b hb h => m.keep.may b hb (take_MB h)⟩,
  ⟨m.stay.same, fun o ob ho => by
  obtain ⟨ob', h1, h2, h3⟩ := m.stay.kind o ob ho
  exact ⟨ob', by rw [nth?_take (nth?_lt ho)]; exact h1, h2, h3⟩⟩, m.amb⟩
theorem len_freeze : ∀ (ks : List Nat) {s : St E.T}, (freeze E s ks).length = s.length
 | [], s => rfl
 | k :: r, s => by rw [freeze, len_freeze r]; split <;> simp [length_upd]
theorem movOk_at {s : St E.T} : ∀ (l : List Nat) (i : Nat), movOk E s i l = true → ∀ j, j < l.length → nth l j 0 = i + j ∨ ∃ l2 e xs ys, nth? s (i + j) = some (.arr l2 e xs) ∧ nth? s (nth l j 0) = some (.arr .live e ys)
 | [], i, h, j, hj => absurd hj (Nat.not_lt_zero j)
 | m :: r, i, h, 0, hj => by
  simp only [movOk, Bool.and_eq_true, Bool.or_eq_true] at h
  rcases h.1 with h1 | h1
  ·left; exact Nat.eq_of_beq_eq_true h1
  ·right
   split at h1
   ·rename_i l2 e xs e' ys p1 p2
    have := tyEqb_eq h1
    subst this
    exact ⟨l2, e, xs, ys, p1, p2⟩
   ·cases h1
 | m :: r, i, h, j + 1, hj => by
  simp only [movOk, Bool.and_eq_true] at h
  have := movOk_at r (i + 1) h.2 j (by simpa using hj)
  rw [show i + (j + 1) = i + 1 + j by omega]
  exact this
theorem headR_at (n : Nat) (s : List (DVal E.T)) : ∀ (mvs : List (Nat × Nat)) (o : Nat), o < n → nth (headR E n s mvs) o 0 = o ∨ ∃ x ∈ mvs, x.2 = o
 | [], o, ho => by
  left
  simp only [headR]
  rw [nth_eq, List.getD_eq_getElem?_getD, List.getElem?_range ho]; rfl
 | (q, k) :: r, o, ho => by
  have ih := headR_at n s r o ho
  have ih' : nth (headR E n s r) o 0 = o ∨ ∃ x ∈ (q, k) :: r, x.2 = o := ih.imp id fun ⟨x, h1, h2⟩ => ⟨x, List.mem_cons_of_mem _ h1, h2⟩
  simp only [headR]
  split
  ·rename_i m _
   cases hb : Nat.ble n m with
   | false => exact ih'
   | true =>
    simp only [cond_true]
    by_cases hk : k = o
    ·exact .inr ⟨(q, k), List.mem_cons_self .., hk⟩
    ·rcases ih' with h | h
     ·left
      rw [nth_eq, List.getD_eq_getElem?_getD] at h ⊢
      rw [upd_eq, List.getElem?_set_ne hk]; exact h
     ·exact .inr h
  ·exact ih'
theorem mvLive_at {s : St E.T} {mvs : List (Nat × Nat)} (h : mvLive E s mvs = true) {x : Nat × Nat} (hx : x ∈ mvs) : ∃ e xs, nth? s x.2 = some (.arr .live e xs) := by
 unfold mvLive at h
 rw [List.all_eq_true] at h
 have := h x hx
 split at this
 ·rename_i e xs hh; exact ⟨e, xs, hh⟩
 ·cases this
theorem DReps.ren {ρ : Nat → Nat} (kp : Kept M M' w w') : ∀ {ds : List (FuncId × List (DVal E.T))} {dds : List Deferred}, DReps E σ st w M ds dds → (∀ k ∈ ds.flatMap fun x => refsL x.2, SameR ρ σ σ' st st' k) → DReps E σ' st' w' M' (ds.map fun x => (x.1, rnL ρ x.2)) dds
 | _, _, .nil, _ => .nil
 | _, _, .cons g as args cap ds dds has h, hs => .cons g _ args cap _ dds (VReps.ren kp trivial has (fun k hk => hs k (by simp [hk]))) (DReps.ren kp h (fun k hk => hs k (by simp only [List.flatMap_cons, List.mem_append]; exact .inr hk)))
theorem head_ok (ok : EnvOk E) {ks : List Nat} {mvs : List (Nat × Nat)} {fr' : Fr E.T} {st' : St E.T} {σ0 : Sg} {st0 : St E.T} {w0 : World} (hlv : mvLive E st0 mvs = true) (m : Mf σ0 σ st0 st w0 w) (hfr : FrRep E σ st w fr a) (h : headOf E ks mvs st0.length fr st = some (fr', st')) :
  ∃ σ', Mf σ0 σ' st0 st' w0 w ∧ FrRep E σ' st' w fr' a ∧ st'.length = st0.length := by
 have hst := m.rep
 have hlen0 := m.stay.len
 unfold headOf at h
 split at h
 ·simp only at h
  generalize hks : List.range' st0.length (st.length - st0.length) = ksf at h
  obtain ⟨m1, _⟩ := freeze_ok ksf hst
  have hk : FrRep E σ (freeze E st ksf) w { s := keepOnly E ks 0 fr.s, d := fr.d } a := ⟨keepOnly_rep ks 0 (hfr.mv m1).s, (hfr.mv m1).d⟩
  have hk2 := FrRep.dat ok m1.rep st0.length hk
  have md := Mv.dat ok m1.rep st0.length
  have m2 : Mf σ0 σ st0 (datSt E (freeze E st ksf) st0.length) w0 w := m.trans (m1.trans md).f
  have hk3 := hk2.mv md
  cases hb : (frRefs E { s := datL E (freeze E st ksf) st0.length (keepOnly E ks 0 fr.s), d := fr.d } ++ stRefs E ((datSt E (freeze E st ksf) st0.length).take st0.length)).all (fun k => Nat.blt k st0.length) with
  | false => rw [hb] at h; cases h
  | true =>
   rw [hb] at h
   cases h
   rw [List.all_eq_true] at hb
   have hlt : ∀ k, k ∈ frRefs E { s := datL E (freeze E st ksf) st0.length (keepOnly E ks 0 fr.s), d := fr.d } ++ stRefs E ((datSt E (freeze E st ksf) st0.length).take st0.length) → k < st0.length := by
    intro k hk
    have := hb k hk
    rwa [Nat.blt_eq] at this
   have hr := take_rep m2.rep (fun k hk => hlt k (List.mem_append_right _ hk))
   refine ⟨σ, Mf.take m2 hr, ?_, ?_⟩
   ·exact frRep_same hk3 (Kept.weaken fun b hb => take_MB hb) (fun k hk => take_same (hlt k (List.mem_append_left _ hk)))
   ·rw [List.length_take, datSt, List.length_map, len_freeze]; omega
 ·simp only at h
  generalize hR : headR E st0.length (keepOnly E ks 0 fr.s) mvs = R at h
  generalize hks : ((List.range' st0.length (st.length - st0.length)).filter fun k => !(memB R k)) = ksf at h
  obtain ⟨m1, _⟩ := freeze_ok ksf hst
  have hk : FrRep E σ (freeze E st ksf) w { s := keepOnly E ks 0 fr.s, d := fr.d } a := ⟨keepOnly_rep ks 0 (hfr.mv m1).s, (hfr.mv m1).d⟩
  have hk2 := FrRep.dat ok m1.rep st0.length hk
  have md := Mv.dat ok m1.rep st0.length
  have m2 : Mf σ0 σ st0 (datSt E (freeze E st ksf) st0.length) w0 w := m.trans (m1.trans md).f
  have hk3 := hk2.mv md
  generalize hfr1 : ({ s := datL E (freeze E st ksf) st0.length (keepOnly E ks 0 fr.s), d := fr.d } : Fr E.T) = fr1 at h hk3
  generalize hst2 : datSt E (freeze E st ksf) st0.length = st2 at h hk3 m2
  cases hb : (Nat.beq R.length st0.length && (closedB E st2 R && (movOk E st2 0 R && (frRefs E fr1).all (memB R)))) with
  | false => rw [hb] at h; cases h
  | true =>
   rw [hb] at h
   cases h
   simp only [Bool.and_eq_true] at hb
   obtain ⟨hn, hcl, hmv, hfrR⟩ := hb
   have hn := Nat.eq_of_beq_eq_true hn
   have hc := closed_of hcl
   have hrep := loc_rep (fx := []) m2.rep hc (m := σ.m) (fun b h => .inl h) m2.rep.amb (fun k hk ob b h1 h2 h3 => m2.rep.out k ob b h1 h2 h3)
   have hMB : ∀ b, MB (locSg σ R σ.m) (locSt E st2 [] R) b → MB σ st2 b := fun b hb => loc_MB hc (fun b h => .inl h) hb
   have hRat : ∀ o, o < st0.length → nth R o 0 = o ∨ ∃ e xs, nth? st0 o = some (.arr .live e xs) := by
    intro o ho
    rw [← hR]
    rcases headR_at st0.length (keepOnly E ks 0 fr.s) mvs o ho with h | ⟨x, hx, rfl⟩
    ·exact .inl h
    ·exact .inr (mvLive_at hlv hx)
   have hmem : ∀ k ∈ frRefs E fr1, k ∈ R := by
    intro k hk
    rw [List.all_eq_true] at hfrR
    exact (memB_iff R k).1 (hfrR k hk)
   have hat : ∀ o ob2, o < R.length → nth? st2 (nth R o 0) = some ob2 → nth? (locSt E st2 [] R) o = some (rnObj (idx R) ob2) := by
    intro o ob2 ho h2
    unfold locSt
    rw [nth?_map]
    have : nth? R o = some (nth R o 0) := nth_some ho
    rw [this]
    simp only [Option.map_some, h2]
    cases ob2 with
    | arr l _ _ => cases l <;> rfl
    | _ => rfl
   refine ⟨locSg σ R σ.m, ⟨hrep, ⟨m2.keep.os, m2.keep.tape, m2.keep.output, m2.keep.size, m2.keep.block, fun b hb h => m2.keep.may b hb (hMB b h)⟩, ⟨fun o ob ho hl => ?_, fun o ob ho => ?_⟩, ⟨m2.amb.m, m2.amb.hid⟩⟩, ⟨?_, ?_⟩, ?_⟩
   ·have holt := nth?_lt ho
    show σ (nth R o 0) = σ0 o
    rcases hRat o holt with h1 | ⟨e, xs, h1⟩
    ·rw [h1]; exact m2.stay.same o ob ho hl
    ·rw [h1] at ho; cases ho; cases hl
   ·have holt := nth?_lt ho
    obtain ⟨ob', h3, t3, h4⟩ := m2.stay.kind o ob ho
    rcases hRat o holt with hR1 | ⟨e0, xs0, hR1⟩
    ·refine ⟨rnObj (idx R) ob', hat o ob' (by omega) (by rw [hR1]; exact h3), ?_, fun hl => ?_⟩
     ·refine t3.trans ?_
      cases ob' with
      | box ro c => exact .box _ _ _ _
      | arr l e xs => exact .arr _ _ _ _ _
      | dead => exact .dead
     ·have := h4 hl
      cases ob' <;> exact this
    rcases movOk_at R 0 hmv o (by omega) with h1 | ⟨l2, e, xs, ys, h1, h2⟩
    ·rw [Nat.zero_add] at h1
     refine ⟨rnObj (idx R) ob', hat o ob' (by omega) (by rw [h1]; exact h3), ?_, fun hl => ?_⟩
     ·refine t3.trans ?_
      cases ob' with
      | box ro c => exact .box _ _ _ _
      | arr l e xs => exact .arr _ _ _ _ _
      | dead => exact .dead
     ·have := h4 hl
      cases ob' <;> exact this
    ·rw [Nat.zero_add] at h1
     rw [h1] at h3; cases h3
     refine ⟨_, hat o _ (by omega) h2, t3.trans (.arr _ _ _ _ _), fun hl => by rw [hR1] at ho; cases ho; cases hl⟩
   ·exact VReps.ren (Kept.weaken hMB) trivial hk3.s (fun k hk => loc_same hc (hmem k (List.mem_append_left _ hk)))
   ·exact DReps.ren (Kept.weaken hMB) hk3.d (fun k hk => loc_same hc (hmem k (List.mem_append_right _ hk)))
   ·rw [locSt, List.length_map]; exact hn
theorem least {p : Nat → Prop} (h : ∃ n, p n) : ∃ n, p n ∧ ∀ m, p m → n ≤ m := by
 obtain ⟨n, hn⟩ := h
 induction n using Nat.strongRecOn with
 | _ n ih =>
  by_cases hm : ∃ m, m < n ∧ p m
  ·obtain ⟨m, h1, h2⟩ := hm
   exact ih m h1 h2
  ·refine ⟨n, hn, fun m hm' => ?_⟩
   rcases Nat.lt_or_ge m n with h | h
   ·exact absurd ⟨m, h, hm'⟩ hm
   ·exact h
open Classical in
theorem wp_loop_by {c : Code} (G : Nat → Act → World → Prop) {n : Nat} {a : Act} {w : World} (h0 : G n a w)
  (round : ∀ n a w, G n a w → ∃ m, n = m + 1 ∧ c.wp P (Exit.then (fun a' w' => G m a' w') Q) a w) : (Code.loop c).wp P Q a w := by
 let μ : Act → World → Nat := fun a w => if h : ∃ n, G n a w then Classical.choose (least h) else 0
 have hμ : ∀ a w n, G n a w → G (μ a w) a w ∧ μ a w ≤ n := by
  intro a w n h
  have hex : ∃ n, G n a w := ⟨n, h⟩
  have hs := Classical.choose_spec (least hex)
  have he : μ a w = Classical.choose (least hex) := dif_pos hex
  rw [he]
  exact ⟨hs.1, hs.2 n h⟩
 refine wp_loop (fun a w => ∃ n, G n a w) μ ⟨n, h0⟩ (fun a w hI => ?_)
 obtain ⟨n, hn⟩ := hI
 obtain ⟨m, hm, hwp⟩ := round _ a w (hμ a w n hn).1
 refine wp_mono hwp (fun e a' w' hq => ?_)
 cases e with
 | normal => exact ⟨⟨m, hq⟩, by have := (hμ a' w' m hq).2; omega⟩
 | exit id => exact hq
 | goto l => exact hq
 | ret => exact hq
 | panic ch => exact hq
 | outgrown => exact hq
def WeakL : List (DVal E.T) → List (DVal E.T) → Prop
 | [], [] => True
 | v :: r, v' :: r' => (v = .undef ∨ v = v') ∧ WeakL r r'
 | _, _ => False
def Weak (fr fr' : Fr E.T) : Prop := fr.d = fr'.d ∧ WeakL fr.s fr'.s
theorem WeakL.refl : ∀ l : List (DVal E.T), WeakL l l
 | [] => trivial
 | _ :: r => ⟨.inr rfl, WeakL.refl r⟩
theorem Weak.refl (fr : Fr E.T) : Weak fr fr := ⟨rfl, WeakL.refl _⟩
theorem VReps.weak {M : Nat → Prop} : ∀ {l l' : List (DVal E.T)} {us : List Value}, WeakL l l' → VReps E σ st w M l' us → VReps E σ st w M l us
 | [], [], _, _, h => h
 | v :: r, v' :: r', _, hw, .cons _ _ u us h h' => by
  rcases hw.1 with rfl | rfl
  ·exact .cons _ _ _ _ (.undef _) (VReps.weak hw.2 h')
  ·exact .cons _ _ _ _ h (VReps.weak hw.2 h')
 | [], _ :: _, _, hw, _ => hw.elim
 | _ :: _, [], _, hw, _ => hw.elim
theorem FrRep.weak {fr fr' : Fr E.T} {a : Act} (h : FrRep E σ st w fr' a) (hw : Weak fr fr') : FrRep E σ st w fr a := ⟨VReps.weak hw.2 h.s, by rw [hw.1]; exact h.d⟩
def LoopsOk (S : FuncId → Option (Spec E)) (L : Nat → LoopInfo E) (N : Nat) : Nat → Code → Prop
 | i, .seq a b => LoopsOk S L N i a ∧ LoopsOk S L N (i + nLoops a) b
 | i, .cond _ a b => LoopsOk S L N i a ∧ LoopsOk S L N (i + nLoops a) b
 | i, .block _ c => LoopsOk S L N i c
 | i, .loop c => (∀ f, (L i).closed = some f → ∀ fr st out, (f fr st).get = some out → ∃ m fr', (loopT E (dcode E S L N (i + 1) c) (L i).keep (L i).mvs st.length m fr st).get = some (out.1, fr', out.2.2) ∧ Weak out.2.1 fr') ∧ LoopsOk S L N (i + 1) c
 | _, _ => True
theorem loopT_ok (ok : EnvOk E) {ks : List Nat} {mvs : List (Nat × Nat)} {step : Fr E.T → St E.T → Tree (CodeOut E)} {c : Code}
  (hstep : ∀ {fr : Fr E.T} {st : St E.T} {a : Act} {w : World} {σ : Sg} {out : CodeOut E} {Q : Exit → Act → World → Prop}, StRep E σ st w → FrRep E σ st w fr a → (step fr st).get = some out → PostC E σ st w Q out → c.wp P Q a w)
  {m : Nat} {out : CodeOut E} (hlv : mvLive E st mvs = true) (hst : StRep E σ st w) (hfr : FrRep E σ st w fr a) (h : (loopT E step ks mvs st.length m fr st).get = some out) (hp : PostC E σ st w Q out) : (Code.loop c).wp P Q a w := by
 refine wp_loop_by (n := m) (fun m a' w' => ∃ fr' st' σ', Mf σ σ' st st' w w' ∧ FrRep E σ' st' w' fr' a' ∧ (loopT E step ks mvs st.length m fr' st').get = some out) ⟨fr, st, σ, Mf.refl hst, hfr, h⟩ ?_
 rintro n a' w' ⟨fr', st', σ', m', hfr', h'⟩
 cases n with
 | zero => cases h'
 | succ n =>
  refine ⟨n, rfl, ?_⟩
  simp only [loopT] at h'
  split at h'
  ·rename_i fr2 st2 hh
   obtain ⟨σ2, m2, hfr2, hl2⟩ := head_ok ok hlv m' hfr' hh
   obtain ⟨p, hp1, h2⟩ := Tree.get_bind_some h'
   obtain ⟨e, fr3, st3⟩ := p
   refine hstep m2.rep hfr2 hp1 (fun σ3 w3 a3 x m3 hfr3 hx => ?_)
   cases hx with
   | normal => exact ⟨fr3, st3, σ3, m2.trans m3, hfr3, h2⟩
   | exit id => cases h2; exact hp σ3 w3 a3 _ (m2.trans m3) hfr3 (.exit id)
   | ret => cases h2; exact hp σ3 w3 a3 _ (m2.trans m3) hfr3 .ret
   | panic v u hv => cases h2; exact hp σ3 w3 a3 _ (m2.trans m3) hfr3 (.panic v u hv)
  ·cases h'
theorem dcode_ok (HS : Sound P E) (hmix : P.follows .mixedOrders = true) {S : FuncId → Option (Spec E)} (HC : CallOk P E S) {L : Nat → LoopInfo E} {N : Nat} : ∀ (c : Code) (i : Nat) {fr : Fr E.T} {st : St E.T} {a : Act} {w : World} {σ : Sg} {out : CodeOut E} {Q : Exit → Act → World → Prop}, LoopsOk S L N i c →
  StRep E σ st w → FrRep E σ st w fr a → (dcode E S L N i c fr st).get = some out → PostC E σ st w Q out → c.wp P Q a w
 | .skip, i, fr, st, a, w, σ, out, Q, hL, hst, hfr, h, hp => by
  cases h
  exact wp_skip (hp σ w a _ (Mf.refl hst) hfr .normal)
 | .seq c1 c2, i, fr, st, a, w, σ, out, Q, hL, hst, hfr, h, hp => by
  simp only [dcode] at h
  obtain ⟨⟨e, fr1, st1⟩, h1, h2⟩ := Tree.get_bind_some h
  refine wp_seq (dcode_ok HS hmix HC c1 i hL.1 hst hfr h1 (fun σ' w' a' x m hfr' hx => ?_))
  cases hx with
  | normal => exact dcode_ok HS hmix HC c2 (i + nLoops c1) hL.2 m.rep hfr' h2 (hp.later m)
  | exit id => cases h2; exact hp σ' w' a' _ m hfr' (.exit id)
  | ret => cases h2; exact hp σ' w' a' _ m hfr' .ret
  | panic v u hv => cases h2; exact hp σ' w' a' _ m hfr' (.panic v u hv)
 | .region id ops draw, i, fr, st, a, w, σ, out, Q, hL, hst, hfr, h, hp => by
  simp only [dcode] at h
  split at h
  ·rename_i p hadj
   obtain ⟨σ1, m1, hfr1⟩ := adjs_ok HS.toEnvOk _ hst hfr hadj
   have hp1 := hp.later m1
   cases draw with
   | true =>
    simp only at h
    obtain ⟨r, h1, h2⟩ := Tree.get_bind_some h
    cases h2
    refine dregion_ok HS HC hmix m1.rep hfr1 h1 ?_
    cases r with
    | done fr' st' => exact fun σ' w' a' m hfr' => hp1 σ' w' a' _ m hfr' .normal
    | panic v fr' st' => exact fun σ' w' a' u m hfr' hv => hp1 σ' w' a' _ m hfr' (.panic v u hv)
   | false =>
    simp only at h
    obtain ⟨r, h1, h2⟩ := Tree.get_bind_some h
    cases h2
    refine region_ok HS HC m1.rep hfr1 h1 ?_
    cases r with
    | done fr' st' => exact fun σ' w' a' m hfr' => hp1 σ' w' a' _ m hfr' .normal
    | panic v fr' st' => exact fun σ' w' a' u m hfr' hv => hp1 σ' w' a' _ m hfr' (.panic v u hv)
  ·cases h
 | .cond x c1 c2, i, fr, st, a, w, σ, out, Q, hL, hst, hfr, h, hp => by
  cases x with
  | tmp t =>
   simp only [dcode] at h
   obtain ⟨b, hb, hor⟩ := onSlot_get h
   have hs := slot_bool hfr hb
   have he : a.eval (.tmp t) = .bool b := by simp [Act.eval, Array.getD_eq_getD_getElem?, hs]
   rcases hor with ⟨rfl, h⟩ | ⟨rfl, h⟩
   ·exact wp_cond_true he (dcode_ok HS hmix HC c1 i hL.1 hst hfr h hp)
   ·exact wp_cond_false he (dcode_ok HS hmix HC c2 (i + nLoops c1) hL.2 hst hfr h hp)
  | _ => simp only [dcode] at h; cases h
 | .block id c, i, fr, st, a, w, σ, out, Q, hL, hst, hfr, h, hp => by
  simp only [dcode] at h
  obtain ⟨⟨e, fr1, st1⟩, h1, h2⟩ := Tree.get_bind_some h
  refine wp_block (dcode_ok HS hmix HC c i hL hst hfr h1 (fun σ' w' a' x m hfr' hx => ?_))
  cases hx with
  | normal => cases h2; exact hp σ' w' a' _ m hfr' .normal
  | exit id' =>
   simp only [Exit.inBlock]
   simp only at h2
   cases hb : Nat.beq id' id with
   | true =>
    rw [hb] at h2
    cases h2
    rw [if_pos (Nat.eq_of_beq_eq_true hb)]
    exact hp σ' w' a' _ m hfr' .normal
   | false =>
    rw [hb] at h2
    cases h2
    rw [if_neg (fun h => by rw [h, Nat.beq_refl] at hb; cases hb)]
    exact hp σ' w' a' _ m hfr' (.exit id')
  | ret => cases h2; exact hp σ' w' a' _ m hfr' .ret
  | panic v u hv => cases h2; exact hp σ' w' a' _ m hfr' (.panic v u hv)
 | .loop c, i, fr, st, a, w, σ, out, Q, hL, hst, hfr, h, hp => by
  simp only [dcode] at h
  split at h
  ·rename_i p hadj
   obtain ⟨σ1, m1, hfr1⟩ := adjs_ok HS.toEnvOk _ hst hfr hadj
   split at h
   ·rename_i fr' st' hh
    obtain ⟨σ2, m2, hfr2, hl2⟩ := head_ok HS.toEnvOk rfl (Mf.refl m1.rep) hfr1 hh
    have hp2 := (hp.later m1).later m2
    obtain ⟨hlv, h⟩ := Tree.get_need h
    have hbody : ∀ {fr : Fr E.T} {st : St E.T} {a : Act} {w : World} {σ : Sg} {out : CodeOut E} {Q : Exit → Act → World → Prop}, StRep E σ st w → FrRep E σ st w fr a → (dcode E S L N (i + 1) c fr st).get = some out → PostC E σ st w Q out → c.wp P Q a w :=
     fun hst hfr h hp => dcode_ok HS hmix HC c (i + 1) hL.2 hst hfr h hp
    split at h
    ·rename_i f hf
     obtain ⟨m, fr2, hm, hwk⟩ := hL.1 f hf fr' st' _ h
     exact loopT_ok HS.toEnvOk hbody hlv m2.rep hfr2 hm (fun σ'' w'' a'' x m' hfr2 hx => hp2 σ'' w'' a'' x m' (hfr2.weak hwk) hx)
    ·exact loopT_ok HS.toEnvOk hbody hlv m2.rep hfr2 h hp2
   ·cases h
  ·cases h
 | .exit id, i, fr, st, a, w, σ, out, Q, hL, hst, hfr, h, hp => by
  cases h
  exact wp_exit (hp σ w a _ (Mf.refl hst) hfr (.exit id))
 | .ret, i, fr, st, a, w, σ, out, Q, hL, hst, hfr, h, hp => by
  cases h
  exact wp_ret (hp σ w a _ (Mf.refl hst) hfr .ret)
 | .scope c, i, fr, st, a, w, σ, out, Q, hL, hst, hfr, h, hp => by simp only [dcode] at h; cases h
 | .label l, i, fr, st, a, w, σ, out, Q, hL, hst, hfr, h, hp => by simp only [dcode] at h; cases h
 | .goto l, i, fr, st, a, w, σ, out, Q, hL, hst, hfr, h, hp => by simp only [dcode] at h; cases h
 | .rangeFunc .., i, fr, st, a, w, σ, out, Q, hL, hst, hfr, h, hp => by simp only [dcode] at h; cases h
end
end
open Go
noncomputable section
section
variable {P : Program} {E : Env} {w w' w'' : World} {σ σ' σ'' : Sg} {st st' st'' : St E.T} {M : Nat → Prop}
variable {a : Act} {fr fr1 : Fr E.T}
def oneOf : List Value → Value
 | [u] => u
 | us => .tuple us.toArray
theorem ptr_addr {x : DVal E.T} {u : Value} {t : TypeId} {v : DVal E.T} (h : (dload E st t x).get = some v) (hx : VRep E σ st w M x u) : ∃ ad, u = .pointer (some ad) := by
 cases x with
 | ptr o p =>
  cases hx with
  | data t d cs hv => cases hv
  | ptr o p b hb hl => exact ⟨_, rfl⟩
 | rptr t' y =>
  cases hx with
  | data t d cs hv => cases hv
  | rptr t x a cs hc hm => exact ⟨a, rfl⟩
 | _ => cases h
theorem dresults_ok (HS : Sound P E) (hst : StRep E σ st w) (hfr : FrRep E σ st w fr a) : ∀ (rs : List ResultVar) {vs : List (DVal E.T)}, (dresults E fr st rs).get = some vs →
  ∃ us, (∀ f : ResultVar → Sem Value, (∀ t, f (.tmp t) = pure (a.tmps.getD t undef)) → (∀ b t, f (.cell b t) = (do loadVar t (← asAddr (a.tmps.getD b undef)))) → (rs.mapM f).run P w = .ok us w) ∧ VReps E σ st w (MB σ st) vs us
 | [], vs, h => by
  cases h
  exact ⟨[], fun f _ _ => by simp, .nil⟩
 | r :: rs, vs, h => by
  simp only [dresults] at h
  obtain ⟨v, hv, h1⟩ := Tree.get_bind_some h
  obtain ⟨vs', hvs, h2⟩ := Tree.get_bind_some h1
  cases h2
  obtain ⟨us, hus, hr⟩ := dresults_ok HS hst hfr rs hvs
  cases r with
  | tmp t =>
   cases hv
   exact ⟨a.eval (.tmp t) :: us, fun f h1 h2 => by simp only [List.mapM_cons, h1, Sem.run_bind, Sem.run_pure, Result.andThen_ok, hus f h1 h2]; rfl, .cons _ _ _ _ (dget_ok hfr (.tmp t)) hr⟩
  | cell b t =>
   simp only [dresult] at hv
   have hx := dget_ok hfr (.tmp b)
   obtain ⟨ad, had⟩ := ptr_addr hv hx
   obtain ⟨y, hy, hvy⟩ := dload_ok HS hst hv hx
   rw [had] at hy
   have hl : (loadVar t ad).run P w = .ok y w := by
    unfold Instr.loadAt Instr.sureAddr at hy
    simpa using hy
   have ha : a.tmps.getD b undef = .pointer (some ad) := had
   have hasA : (asAddr (.pointer (some ad))).run P w = .ok ad w := rfl
   exact ⟨y :: us, fun f h1 h2 => by simp only [List.mapM_cons, h2, Sem.run_bind, ha, hasA, Sem.run_pure, Result.andThen_ok, hl, hus f h1 h2], .cons _ _ _ _ hvy hr⟩
theorem results_ok (HS : Sound P E) (hst : StRep E σ st w) (hfr : FrRep E σ st w fr a) {fn : Func} {vs : List (DVal E.T)} (h : (dresults E fr st fn.results.toList).get = some vs) :
  ∃ us, (results fn a.tmps).run P w = .ok (oneOf us) w ∧ VReps E σ st w (MB σ st) vs us := by
 obtain ⟨us, hus, hr⟩ := dresults_ok HS hst hfr fn.results.toList h
 refine ⟨us, ?_, hr⟩
 unfold results
 rw [Sem.run_bind, Array.mapM_eq_mapM_toList, Sem.run_map, hus]
 ·simp only [Result.andThen_ok, Sem.run_pure]
  congr 1
  match us with
  | [] => rfl
  | [u] => rfl
  | u :: u' :: r => simp; rfl
 ·intro t; rfl
 ·intro b t; rfl
theorem resVal_ok {vs : List (DVal E.T)} {us : List Value} (h : VReps E σ st w M vs us) : VRep E σ st w M (resVal E vs) (oneOf us) := by
 cases h with
 | nil => exact VRep.tup [] [] .nil
 | cons v r u us h h' =>
  cases h' with
  | nil => exact h
  | cons v' r' u' us' h1 h2 => exact VRep.tup _ _ (.cons _ _ _ _ h (.cons _ _ _ _ h1 h2))
theorem asData_ok (ok : EnvOk E) (hst : StRep E σ st w) (hM : ∀ b, M b → MB σ st b) : ∀ (ts : List TypeId) {vs ws : List (DVal E.T)} {us : List Value}, asData E st ts vs = some ws → VReps E σ st w (MB σ st) vs us →
  (∀ k ∈ refsL vs, ∀ l e xs b, nth? st k = some (.arr l e xs) → blk (σ k) = some b → ¬ M b) → VReps E σ st w M ws us
 | [], [], ws, us, h, hv, _ => by cases h; cases hv; exact .nil
 | t :: ts, v :: vs, ws, us, h, hv, hr => by
  cases hv with
  | cons v vs u us hv hvs =>
   simp only [asData] at h
   split at h
   ·rename_i ty hk
    split at h
    ·rename_i x hx
     split at h
     ·rename_i r hr'
      cases h
      obtain ⟨cs, hvt, rfl⟩ := rep_data hx hv
      have hc := toData_ok ok hst hM depth (fun k hk => hr k (by simp [refsL, hk])) hx hvt
      exact .cons _ _ _ _ (.data ty _ cs (.val ty x cs hc)) (asData_ok ok hst hM ts hr' hvs (fun k hk => hr k (by simp [refsL, hk])))
     ·cases h
    ·cases h
   ·cases h
   ·split at h
    ·split at h
     ·rename_i r hr'
      cases h
      exact .cons _ _ _ _ (VRep.keep (Kept.weaken hM) hv (fun k _ => Same.refl k)) (asData_ok ok hst hM ts hr' hvs (fun k hk => hr k (by simp [refsL, hk])))
     ·cases h
    ·cases h
 | [], _ :: _, ws, us, h, _, _ => by simp [asData] at h
 | _ :: _, [], ws, us, h, _, _ => by simp [asData] at h
inductive PanRep (E : Env) (σ : Sg) (st : St E.T) (w : World) : Option (DVal E.T) → FrameMode → Prop where
 | none : PanRep E σ st w none .returning
 | some (v : DVal E.T) (u : Value) (h : VRep E σ st w (MB σ st) v u) : PanRep E σ st w (some v) (.panicking [{ v := u, recovered := false }])
theorem stRefs_freeze : ∀ (ks : List Nat) {st : St E.T}, ∀ n, stRefs E ((freeze E st ks).take n) = stRefs E (st.take n)
 | [], st, n => rfl
 | k :: r, st, n => by
  rw [freeze, stRefs_freeze r]
  split
  ·rename_i lv e xs hk
   have : ∀ (l : St E.T) (k n : Nat) (h : nth? l k = some (.arr lv e xs)), stRefs E ((upd l k (.arr .froz e xs)).take n) = stRefs E (l.take n) := by
    intro l
    induction l with
    | nil => intro k n h; cases h
    | cons o l ih =>
     intro k n h
     cases n with
     | zero => rfl
     | succ n =>
      cases k with
      | zero =>
       simp only [nthq_nil, nthq_zero, nthq_succ, Option.some.injEq] at h
       subst h
       simp [upd_nil, upd_zero, upd_succ, stRefs, objRefs]
      | succ k =>
       have := ih k n h
       simp only [upd_nil, upd_zero, upd_succ, List.take_succ_cons, stRefs, List.flatMap_cons] at this ⊢
       rw [this]
   exact this st k n hk
  ·rfl
theorem blt_all {l : List Nat} {n : Nat} (h : (l.all fun k => Nat.blt k n) = true) : ∀ k ∈ l, k < n := by
 intro k hk
 rw [List.all_eq_true] at h
 have := h k hk
 rwa [Nat.blt_eq] at this
theorem ending_ok (HS : Sound P E) {keep : Bool} {fn : Func} {σ0 : Sg} {st0 : St E.T} {w0 : World} (m : Mf σ0 σ st0 st w0 w) (hfr : FrRep E σ st w fr a) {pan : Option (DVal E.T)} {u : FrameMode} (hpan : PanRep E σ st w pan u) {r : Res E.T} {st' : St E.T}
  (h : (ending E keep st0.length fn fr st pan).get = some (r, st')) : Leaves P fn a.tmps (fun e w' => Back E σ0 st0 st' w0 r e w') [] u w := by
 have hst := m.rep
 unfold ending at h
 cases hpan with
 | some v u hv =>
  simp only at h
  cases keep with
  | true =>
   cases h
   exact ⟨σ, m, u, rfl, hv⟩
  | false =>
   obtain ⟨hb, h⟩ := Tree.get_need h
   cases h
   have hlt := blt_all hb
   have hr := take_rep hst (fun k hk => hlt k (List.mem_append_left _ hk))
   exact ⟨σ, Mf.take m hr, u, rfl, VRep.keep (Kept.weaken fun b hb => take_MB hb) hv (fun k hk => take_same (hlt k (List.mem_append_right _ hk)))⟩
 | none =>
  simp only at h
  obtain ⟨vs, hvs, h⟩ := Tree.get_bind_some h
  obtain ⟨us, hus, hr⟩ := results_ok HS hst hfr hvs
  cases keep with
  | true =>
   cases h
   exact ⟨_, hus, σ, m, resVal_ok hr⟩
  | false =>
   simp only at h
   split at h
   ·rename_i ws hws
    obtain ⟨hb, h⟩ := Tree.get_need h
    cases h
    have hlt := blt_all hb
    obtain ⟨mf, _⟩ := freeze_ok (live E st (refsL vs)) hst
    have hM : ∀ b, MB σ (freeze E st (live E st (refsL vs))) b → MB σ st b := fun b hb => mf.keep.may b (MB_lt mf.rep hb) hb
    have hd := asData_ok HS.toEnvOk hst hM fn.resultTypes.toList hws hr (fun k hk l e xs b hh hb => rows_calm hst hk hh hb)
    have hd2 : VReps E σ (freeze E st (live E st (refsL vs))) w (MB σ (freeze E st (live E st (refsL vs)))) ws us := VReps.keep (Kept.weaken fun _ h => h) hd (fun k hk => mf.same k (VReps.refs hd k hk))
    have hrep := take_rep (n := st0.length) mf.rep (fun k hk => hlt k (List.mem_append_left _ (by rw [stRefs_freeze] at hk; exact hk)))
    have m2 := Mf.take (m.trans mf.f) hrep
    exact ⟨_, hus, σ, m2, resVal_ok (VReps.keep (M' := MB σ ((freeze E st (live E st (refsL vs))).take st0.length)) (Kept.weaken fun b hb => take_MB hb) hd2 (fun k hk => take_same (hlt k (List.mem_append_right _ hk))))⟩
   ·cases h
def DSpecOk (P : Program) (E : Env) (g : FuncId) (F : DSpec E) : Prop :=
 Enters P g ∧ ∀ {σ : Sg} {st : St E.T} {w : World} {ds : List (DVal E.T)} {us : List Value} {pan : Option (DVal E.T)} {u : FrameMode} {b : Bool} {st' : St E.T}, StRep E σ st w → VReps E σ st w (MB σ st) ds us → PanRep E σ st w pan u → (F ds st pan).get = some (b, st') →
  CallsD P g us.toArray u w fun e u' w' => (∃ v, e = .returned v) ∧ ∃ σ', Mf σ σ' st st' w w' ∧ ((b = true ∧ settle u' = .returning) ∨ (b = false ∧ u' = u))
theorem settle_pan {pan : Option (DVal E.T)} {u : FrameMode} (h : PanRep E σ st w pan u) : settle u = u := by
 cases h with
 | none => rfl
 | some v u h => rfl
end
end
open Go
section
variable {P : Program} {E : Env} {w w' w'' : World} {σ σ' σ'' : Sg} {st st' st'' : St E.T} {M : Nat → Prop}
variable {a : Act} {fr fr1 : Fr E.T}
theorem PanRep.map {pan : Option (DVal E.T)} {u : FrameMode} (h : PanRep E σ st w pan u) (hv : ∀ v u, pan = Option.some v → VRep E σ st w (MB σ st) v u → VRep E σ' st' w' (MB σ' st') v u) : PanRep E σ' st' w' pan u := by
 cases h with
 | none => exact .none
 | some v u h => exact .some v u (hv v u rfl h)
theorem leave_ok (HS : Sound P E) {SD : FuncId → Option (DSpec E)} (HD : ∀ g F, SD g = some F → DSpecOk P E g F) {keep : Bool} {fn : Func} {σ0 : Sg} {st0 : St E.T} {w0 : World} (m : Mf σ0 σ st0 st w0 w) (hfr : FrRep E σ st w fr a) {pan : Option (DVal E.T)} {u : FrameMode} (hpan : PanRep E σ st w pan u)
  (hpr : ∀ v, pan = some v → refs v = []) {r : Res E.T} {st' : St E.T} (h : (leave E SD keep st0.length fn fr st pan).get = some (r, st')) :
  Leaves P fn a.tmps (fun e w' => Back E σ0 st0 st' w0 r e w') a.defers u w := by
 have hst := m.rep
 unfold leave at h
 have hd := hfr.d
 split at h
 ·rename_i hn
  rw [hn] at hd
  generalize hdd : a.defers = dd at hd
  cases hd
  exact ending_ok HS m hfr hpan h
 ·rename_i g as hn
  rw [hn] at hd
  generalize hdd : a.defers = dd at hd
  cases hd with
  | cons g as args cap ds dds has hds =>
   cases hds
   split at h
   ·rename_i F hF
    obtain ⟨hent, hcall⟩ := HD g F hF
    simp only at h
    generalize hbs : stRefs E st ++ refsL as = bs at h
    generalize hfs : movers E st (frRefs E fr) = fs at h
    generalize hhid : (fs.filter fun k => !(memB bs k)) = hid at h
    obtain ⟨p, hp1, h⟩ := Tree.get_bind_some h
    obtain ⟨b, s1⟩ := p
    have hok : HidOk E st hid := by
     refine ⟨fun k hk => ?_, fun k hk => ?_⟩
     ·rw [← hhid] at hk
      have := (mem_filter_out.1 hk).1
      rw [← hfs] at this
      exact (mov_mem.1 this).2
     ·rw [← hhid] at hk
      have := (mem_filter_out.1 hk).2
      rw [← hbs] at this
      exact fun h => this (List.mem_append_left _ h)
    have hdr : ∀ k ∈ refsL as, k ∉ hid := by
     intro k hk hkh
     rw [← hhid] at hkh
     have := (mem_filter_out.1 hkh).2
     rw [← hbs] at this
     exact this (List.mem_append_right _ hk)
    have has' : VReps E (Hidden σ hid) (hide E hid st) w (MB (Hidden σ hid) (hide E hid st)) as (args ++ cap).toList := VReps.keep (Kept.weaken fun b hb => hide_MB hok hb) has (fun k hk => hide_same hok (hdr k hk))
    have hpan' : PanRep E (Hidden σ hid) (hide E hid st) w pan u := hpan.map (fun v u hv h => VRep.keep (Kept.weaken fun b hb => hide_MB hok hb) h (fun k hk => by rw [hpr v hv] at hk; cases hk))
    refine leaves_cons (f := g) (args := args ++ cap) (by cases hpan <;> exact fun h => by cases h) (by simpa [invoke] using hent (args ++ cap) w) ?_
    have hc := hcall (hide_rep hst hok) has' hpan' hp1
    rw [show ((args ++ cap).toList.toArray) = args ++ cap by simp] at hc
    refine CallsD.mono hc (fun e u' w' hb => ?_)
    obtain ⟨⟨v, rfl⟩, σ', m1, hor⟩ := hb
    obtain ⟨σ'', m', hv, hsame⟩ := unhide_ok hst hok m1
    have hfr' : FrRep E σ'' (unhide E st hid s1) w' (killFr E st (fs.filter (memB bs)) fr) a := by
     have hk := frRep_kill hst (fs.filter (memB bs)) hfr
     refine frRep_same hk m'.keep.kept (fun k hk' => ?_)
     obtain ⟨h1, h2⟩ := frRefs_kill _ hk'
     refine hsame k (frRefs_lt hfr k h1) ?_
     by_cases hl : ∃ e xs, nth? st k = some (.arr .live e xs)
     ·left
      have hkf : k ∈ fs := by rw [← hfs]; exact mov_mem.2 ⟨h1, hl⟩
      rw [← hhid]
      exact mem_filter_out.2 ⟨hkf, fun hb => h2 (mem_filter_in.2 ⟨hkf, hb⟩)⟩
     ·right
      exact fun e xs hh => hl ⟨e, xs, hh⟩
    have hfr2 : FrRep E σ'' (unhide E st hid s1) w' { killFr E st (fs.filter (memB bs)) fr with d := [] } { tmps := a.tmps, defers := [] } := ⟨hfr'.s, .nil⟩
    have hpan2 : PanRep E σ'' (unhide E st hid s1) w' pan u := hpan.map (fun v u hv h => VRep.keep m'.keep.kept h (fun k hk => by rw [hpr v hv] at hk; cases hk))
    rcases hor with ⟨rfl, hs⟩ | ⟨rfl, hs⟩
    ·show Leaves P fn a.tmps _ [] (settle u') w'
     rw [hs]
     exact ending_ok HS (m.trans m') (a := { tmps := a.tmps, defers := [] }) hfr2 .none h
    ·show Leaves P fn a.tmps _ [] (settle u') w'
     rw [hs, settle_pan hpan]
     exact ending_ok HS (m.trans m') (a := { tmps := a.tmps, defers := [] }) hfr2 hpan2 h
   ·cases h
 ·cases h
theorem VReps.replicate (n : Nat) : VReps E σ st w M (List.replicate n .undef) (List.replicate n undef) := by
 induction n with
 | zero => exact .nil
 | succ n ih => exact .cons _ _ _ _ (.undef _) ih
theorem frame_ok {fn : Func} {ds : List (DVal E.T)} {us : List Value} (h : VReps E σ st w (MB σ st) ds us) : FrRep E σ st w (frame E fn ds) { tmps := us.toArray ++ Array.replicate (fn.ntmps - us.toArray.size) undef, defers := [] } := by
 refine ⟨?_, .nil⟩
 have := VReps.append h (VReps.replicate (E := E) (σ := σ) (st := st) (w := w) (M := MB σ st) (fn.ntmps - ds.length))
 simpa [frame, VReps.length h] using this
theorem dbody_ok (HS : Sound P E) (hmix : P.follows .mixedOrders = true) {S : FuncId → Option (Spec E)} (HC : CallOk P E S) {SD : FuncId → Option (DSpec E)} (HD : ∀ g F, SD g = some F → DSpecOk P E g F) {L : Nat → LoopInfo E} {N : Nat} {keep : Bool} {f : FuncId} {fn : Func} {c : Code}
  (hf : P.funcs[f]? = some fn) (hb : fn.body = some c) (hL : LoopsOk S L N 0 c) : FnOk P E f (dbody E S SD L N keep fn) := by
 intro σ st w ds us r st' hst hds h
 unfold dbody at h
 rw [hb] at h
 simp only at h
 obtain ⟨⟨e, fr, st1⟩, h1, h2⟩ := Tree.get_bind_some h
 refine calls_of_wp_defers hf hb (dcode_ok HS hmix HC c 0 hL hst (frame_ok hds) h1 (fun σ' w' a' x m hfr hx => ?_))
 cases hx with
 | normal => exact leave_ok HS HD m hfr .none (fun v h => by cases h) h2
 | exit id => cases h2
 | ret => exact leave_ok HS HD m hfr .none (fun v h => by cases h) h2
 | panic v u hv =>
  obtain ⟨hn, h2⟩ := Tree.get_need h2
  exact leave_ok HS HD m hfr (.some v u hv) (fun v' h => by cases h; exact List.isEmpty_iff.1 hn) h2
theorem pure_ok {f : FuncId} {F : List (DVal E.T) → St E.T → Tree (Res E.T × St E.T)} (h : FnOk P E f F) {G : List (DVal E.T) → Tree (Res E.T)} (hG : ∀ ds r, (G ds).get = some r → (F ds []).get = some (r, [])) : PureOk P E f G :=
 fun hst hds hr => h hst hds (hG _ _ hr)
theorem opsS_of {ops : Array Oper} {Q : Exit → Act → List Frame → World → Prop} {cs : List Frame} (hQ : ∀ a w, ¬ Q .outgrown a cs w) : ∀ (l : List Nat) (a : Act) (w : World), wpOps P ops (fun e a w => Q e a cs w) l a w → wpOpsS P ops Q l a cs w
 | [], a, w, h => h
 | i :: r, a, w, h => by
  simp only [wpOps] at h
  simp only [wpOpsS]
  split at h
  ·rename_i hi; rw [hi]; exact opsS_of hQ r a w h
  ·rename_i o hi
   rw [hi]
   simp only
   split at h
   ·rename_i hw
    rw [if_pos hw]
    have h := h.resolve_right (fun ⟨_, a, w, h⟩ => hQ a w h)
    have h' : o.wp P a w (fun a' w' => wpOpsS P ops Q r a' cs w') (fun e a w => Q e a cs w) := Oper.wp_mono (fun a w h => opsS_of hQ r a w h) h
    unfold Oper.wp at h'
    split
    ·rename_i w' hrec
     rw [hrec] at h'
     exact h'.elim
    ·exact h'
   ·rename_i hw
    rw [if_neg hw]
    exact opsS_of hQ r _ w h
end
open Go
noncomputable section
def TkAt (P : Program) (E : Env) (t : TypeId) : TK → Prop
 | .data ty => TyM P E t ty
 | .ptr => (∃ e, P.underlying t = some (.pointer e)) ∧ ∃ i, P.info? t = some i ∧ i.size = 1 ∧ i.zero = some (.pointer none)
 | .func => (∃ a b c, P.underlying t = some (.func a b c)) ∧ ∃ i, P.info? t = some i ∧ i.size = 1 ∧ i.zero = some .nilFunc
 | .iface => (∃ m, P.underlying t = some (.interface m)) ∧ ∃ i, P.info? t = some i ∧ i.size = 1 ∧ i.zero = some .nilIface
 | .other => True
def TkAll (P : Program) (E : Env) : Nat → List TK → Prop
 | _, [] => True
 | i, k :: r => TkAt P E i k ∧ TkAll P E (i + 1) r
theorem tkAll_at {P : Program} {E : Env} : ∀ (l : List TK) (i : Nat), TkAll P E i l → ∀ (j : Nat), TkAt P E (i + j) (nth l j .other)
 | [], i, h, j => trivial
 | k :: r, i, h, 0 => h.1
 | k :: r, i, h, j + 1 => by
  have := tkAll_at r (i + 1) h.2 j
  rw [show i + (j + 1) = i + 1 + j by omega]
  exact this
theorem sound_of {P : Program} {E : Env} (ok : EnvOk E) (eqb : ∀ i x y, E.eqb i x y = eqHL E (E.fields i) (E.out i x) (E.out i y))
  (cmp : ∀ t, E.cmp t = true → P.eqGuardType P.depth t = false ∧ P.stoodInHeld t = false ∧ (∀ fs, P.underlying t = some (.struct fs) → ∀ f ∈ fs.toList, E.cmp f.type = true) ∧ ∀ n e, P.underlying t = some (.array n e) → E.cmp e = true)
  (tbl : List TK) (htk : ∀ t, E.tk t = nth tbl t .other) (h : TkAll P E 0 tbl) : Sound P E := by
 have key : ∀ t, TkAt P E t (E.tk t) := by
  intro t
  have := tkAll_at tbl 0 h t
  rw [Nat.zero_add, ← htk t] at this
  exact this
 refine { toEnvOk := ok, eqb := eqb, cmp := cmp, data := ?_, ptr := ?_, func := ?_, iface := ?_ }
 ·intro t ty ht; have := key t; rw [ht] at this; exact this
 ·intro t ht; have := key t; rw [ht] at this; exact this
 ·intro t ht; have := key t; rw [ht] at this; exact this
 ·intro t ht; have := key t; rw [ht] at this; exact this
def lookS {E : Env} : List (Nat × Spec E) → FuncId → Option (Spec E)
 | [], _ => none
 | p :: r, f => bif Nat.beq p.1 f then some p.2 else lookS r f
def AllS (P : Program) (E : Env) : List (Nat × Spec E) → Prop
 | [] => True
 | p :: r => SpecOk P E p.1 p.2 ∧ AllS P E r
theorem lookS_ok {P : Program} {E : Env} : ∀ {l : List (Nat × Spec E)}, AllS P E l → ∀ f s, lookS l f = some s → SpecOk P E f s
 | [], _, f, s, h => by cases h
 | p :: r, hl, f, s, h => by
  simp only [lookS] at h
  cases hb : Nat.beq p.1 f with
  | true =>
   rw [hb] at h
   cases h
   rw [← Nat.eq_of_beq_eq_true hb]
   exact hl.1
  | false => rw [hb] at h; exact lookS_ok hl.2 f s h
def lookD {E : Env} : List (Nat × DSpec E) → FuncId → Option (DSpec E)
 | [], _ => none
 | p :: r, f => bif Nat.beq p.1 f then some p.2 else lookD r f
def AllD (P : Program) (E : Env) : List (Nat × DSpec E) → Prop
 | [] => True
 | p :: r => DSpecOk P E p.1 p.2 ∧ AllD P E r
theorem lookD_ok {P : Program} {E : Env} : ∀ {l : List (Nat × DSpec E)}, AllD P E l → ∀ f s, lookD l f = some s → DSpecOk P E f s
 | [], _, f, s, h => by cases h
 | p :: r, hl, f, s, h => by
  simp only [lookD] at h
  cases hb : Nat.beq p.1 f with
  | true =>
   rw [hb] at h
   cases h
   rw [← Nat.eq_of_beq_eq_true hb]
   exact hl.1
  | false => rw [hb] at h; exact lookD_ok hl.2 f s h
theorem loopsOk_open {E : Env} {S : FuncId → Option (Spec E)} {L : Nat → LoopInfo E} {N : Nat} (h : ∀ i, (L i).closed = none) : ∀ (c : Code) (i : Nat), LoopsOk S L N i c
 | .seq a b, i => ⟨loopsOk_open h a i, loopsOk_open h b _⟩
 | .cond _ a b, i => ⟨loopsOk_open h a i, loopsOk_open h b _⟩
 | .block _ c, i => loopsOk_open h c i
 | .loop c, i => ⟨(fun f hf => by rw [h i] at hf; cases hf), loopsOk_open h c _⟩
 | .skip, i => trivial
 | .region _ _ _, i => trivial
 | .exit _, i => trivial
 | .ret, i => trivial
 | .scope _, i => trivial
 | .label _, i => trivial
 | .goto _, i => trivial
 | .rangeFunc .., i => trivial
 | .refuse _, i => trivial
def noL (E : Env) : Nat → LoopInfo E := fun _ => { keep := [], closed := none }
end
open Go
noncomputable section
def loopAt : Nat → Code → Option Code
 | i, .seq a b => bif Nat.blt i (nLoops a) then loopAt i a else loopAt (i - nLoops a) b
 | i, .cond _ a b => bif Nat.blt i (nLoops a) then loopAt i a else loopAt (i - nLoops a) b
 | i, .block _ c => loopAt i c
 | 0, .loop c => some c
 | i + 1, .loop c => loopAt i c
 | _, _ => none
theorem blt_yes {a b : Nat} (h : a < b) : Nat.blt a b = true := by rw [Nat.blt_eq]; exact h
theorem blt_no {a b : Nat} (h : b ≤ a) : Nat.blt a b = false := by
 cases hb : Nat.blt a b with
 | false => rfl
 | true => rw [Nat.blt_eq] at hb; omega
section
variable {E : Env}
theorem loopAt_two {a b : Code} {k : Nat} {cb : Code} (ha : loopAt k a = some cb → k < nLoops a) (hb : loopAt (k - nLoops a) b = some cb → k - nLoops a < nLoops b) (h : (bif Nat.blt k (nLoops a) then loopAt k a else loopAt (k - nLoops a) b) = some cb) : k < nLoops a + nLoops b := by
 rcases Nat.lt_or_ge k (nLoops a) with h1 | h1
 ·omega
 ·rw [blt_no h1] at h
  have := hb h
  omega
theorem loopAt_lt : ∀ (c : Code) (k : Nat) {cb : Code}, loopAt k c = some cb → k < nLoops c
 | .seq a b, k, cb, h => by
  unfold loopAt at h
  exact loopAt_two (loopAt_lt a k) (loopAt_lt b _) h
 | .cond _ a b, k, cb, h => by
  unfold loopAt at h
  exact loopAt_two (loopAt_lt a k) (loopAt_lt b _) h
 | .block _ c, k, cb, h => by
  unfold loopAt at h
  exact loopAt_lt c k h
 | .loop c, 0, cb, h => Nat.succ_pos _
 | .loop c, k + 1, cb, h => by
  unfold loopAt at h
  exact Nat.succ_lt_succ (loopAt_lt c k h)
 | .skip, _, _, h => by unfold loopAt at h; cases h
 | .region _ _ _, _, _, h => by unfold loopAt at h; cases h
 | .exit _, _, _, h => by unfold loopAt at h; cases h
 | .ret, _, _, h => by unfold loopAt at h; cases h
 | .scope _, _, _, h => by unfold loopAt at h; cases h
 | .label _, _, _, h => by unfold loopAt at h; cases h
 | .goto _, _, _, h => by unfold loopAt at h; cases h
 | .rangeFunc .., _, _, h => by unfold loopAt at h; cases h
 | .refuse _, _, _, h => by unfold loopAt at h; cases h
def LpOk (S : FuncId → Option (Spec E)) (L : Nat → LoopInfo E) (N : Nat) (i : Nat) (cb : Code) : Prop :=
 ∀ f, (L i).closed = some f → ∀ fr st out, (f fr st).get = some out → ∃ m fr', (loopT E (dcode E S L N (i + 1) cb) (L i).keep (L i).mvs st.length m fr st).get = some (out.1, fr', out.2.2) ∧ Weak out.2.1 fr'
theorem loopsOk_two {S : FuncId → Option (Spec E)} {L : Nat → LoopInfo E} {N : Nat} {a b : Code} {i : Nat} (ha : (∀ k cb, loopAt k a = some cb → LpOk S L N (i + k) cb) → LoopsOk S L N i a) (hb : (∀ k cb, loopAt k b = some cb → LpOk S L N (i + nLoops a + k) cb) → LoopsOk S L N (i + nLoops a) b)
  (h : ∀ k cb, (bif Nat.blt k (nLoops a) then loopAt k a else loopAt (k - nLoops a) b) = some cb → LpOk S L N (i + k) cb) : LoopsOk S L N i a ∧ LoopsOk S L N (i + nLoops a) b := by
 refine ⟨ha fun k cb hk => h k cb ?_, hb fun k cb hk => ?_⟩
 ·rw [blt_yes (loopAt_lt a k hk)]; exact hk
 ·have := h (nLoops a + k) cb (by rw [blt_no (by omega), Nat.add_sub_cancel_left]; exact hk)
  rwa [← Nat.add_assoc] at this
theorem loopsOk_of {S : FuncId → Option (Spec E)} {L : Nat → LoopInfo E} {N : Nat} : ∀ (c : Code) (i : Nat), (∀ k cb, loopAt k c = some cb → LpOk S L N (i + k) cb) → LoopsOk S L N i c
 | .seq a b, i, h => loopsOk_two (loopsOk_of a i) (loopsOk_of b _) (fun k cb hk => h k cb (by unfold loopAt; exact hk))
 | .cond _ a b, i, h => loopsOk_two (loopsOk_of a i) (loopsOk_of b _) (fun k cb hk => h k cb (by unfold loopAt; exact hk))
 | .block _ c, i, h => loopsOk_of c i fun k cb hk => h k cb (by unfold loopAt; exact hk)
 | .loop c, i, h => ⟨h 0 c (by unfold loopAt; rfl), loopsOk_of c (i + 1) fun k cb hk => by
   have := h (k + 1) cb (by unfold loopAt; exact hk)
   rwa [show i + (k + 1) = i + 1 + k by omega] at this⟩
 | .skip, _, _ => trivial
 | .region _ _ _, _, _ => trivial
 | .exit _, _, _ => trivial
 | .ret, _, _ => trivial
 | .scope _, _, _ => trivial
 | .label _, _, _ => trivial
 | .goto _, _, _ => trivial
 | .rangeFunc .., _, _ => trivial
 | .refuse _, _, _ => trivial
def LoopTo (step : Fr E.T → St E.T → Tree (CodeOut E)) (ks : List Nat) (mvs : List (Nat × Nat)) (n : Nat) (h : Fr E.T) (st : St E.T) (out : CodeOut E) : Prop :=
 ∃ m, ∀ fr0 st0, headOf E ks mvs n fr0 st0 = some (h, st) → ∃ fr', (loopT E step ks mvs n m fr0 st0).get = some (out.1, fr', out.2.2) ∧ Weak out.2.1 fr'
def forget (rs : List Nat) (fr : Fr E.T) : Fr E.T := { s := keepOnly E rs 0 fr.s, d := fr.d }
theorem forget_weakL (rs : List Nat) : ∀ (l : List (DVal E.T)) (i : Nat), WeakL (keepOnly E rs i l) l
 | [], _ => trivial
 | v :: r, i => by
  unfold keepOnly
  refine ⟨?_, forget_weakL rs r (i + 1)⟩
  cases memB rs i with
  | true => exact .inr rfl
  | false => exact .inl rfl
theorem forget_weak (rs : List Nat) (fr : Fr E.T) : Weak (forget rs fr) fr := ⟨rfl, forget_weakL rs fr.s 0⟩
def nx (E : Env) (ks : List Nat) (mvs : List (Nat × Nat)) (rs : List Nat) (n : Nat) (p : CodeOut E) : Tree (Sum (Fr E.T × St E.T) (CodeOut E)) :=
 match p.1 with
 | .normal => match headOf E ks mvs n p.2.1 p.2.2 with
  | some q => .ret (.inl q)
  | none => .fail
 | e => .ret (.inr (e, forget rs p.2.1, p.2.2))
theorem LoopTo.next {step : Fr E.T → St E.T → Tree (CodeOut E)} {ks rs : List Nat} {mvs : List (Nat × Nat)} {n : Nat} {h h' : Fr E.T} {st st' : St E.T} {out : CodeOut E} (h1 : ((step h st).bind (nx E ks mvs rs n)).get = some (.inl (h', st'))) (h2 : LoopTo step ks mvs n h' st' out) : LoopTo step ks mvs n h st out := by
 obtain ⟨m, hm⟩ := h2
 refine ⟨m + 1, fun fr0 st0 h0 => ?_⟩
 obtain ⟨p, hs, h1⟩ := Tree.get_bind_some h1
 unfold loopT
 rw [h0]
 simp only [Tree.get_bind, hs, Option.bind_some]
 obtain ⟨e, fr, s⟩ := p
 cases e with
 | normal =>
  simp only [nx] at h1
  cases hh : headOf E ks mvs n fr s with
  | none => rw [hh] at h1; cases h1
  | some q => rw [hh] at h1; cases h1; exact hm _ _ hh
 | exit _ => cases h1
 | ret => cases h1
 | panic _ => cases h1
theorem LoopTo.stop {step : Fr E.T → St E.T → Tree (CodeOut E)} {ks rs : List Nat} {mvs : List (Nat × Nat)} {n : Nat} {h : Fr E.T} {st : St E.T} {out : CodeOut E} (h1 : ((step h st).bind (nx E ks mvs rs n)).get = some (.inr out)) : LoopTo step ks mvs n h st out := by
 refine ⟨1, fun fr0 st0 h0 => ?_⟩
 obtain ⟨p, hs, h1⟩ := Tree.get_bind_some h1
 unfold loopT
 rw [h0]
 simp only [Tree.get_bind, hs, Option.bind_some]
 obtain ⟨e, fr, s⟩ := p
 cases e with
 | normal =>
  simp only [nx] at h1
  cases hh : headOf E ks mvs n fr s with
  | none => rw [hh] at h1; cases h1
  | some q => rw [hh] at h1; cases h1
 | exit _ => cases h1; exact ⟨_, rfl, forget_weak rs fr⟩
 | ret => cases h1; exact ⟨_, rfl, forget_weak rs fr⟩
 | panic _ => cases h1; exact ⟨_, rfl, forget_weak rs fr⟩
def isU {T : Nat → Type} : DVal T → Bool
 | .undef => true
 | _ => false
def shapeB {T : Nat → Type} (ks : List Nat) : Nat → List (DVal T) → Bool
 | _, [] => true
 | i, v :: r => (memB ks i || isU v) && shapeB ks (i + 1) r
def pick {T : Nat → Type} : List (Nat × DVal T) → Nat → DVal T
 | [], _ => .undef
 | (j, v) :: r, i => bif Nat.beq i j then v else pick r i
def slots {T : Nat → Type} (l : List (Nat × DVal T)) (n : Nat) : List (DVal T) := (List.range n).map (pick l)
theorem pick_map {T : Nat → Type} (f : Nat → DVal T) (q : Nat) : ∀ ks : List Nat, pick (ks.map fun j => (j, f j)) q = bif memB ks q then f q else .undef
 | [] => rfl
 | j :: ks => by
  simp only [List.map_cons, pick, memB, List.any_cons]
  cases h : Nat.beq q j with
  | true => rw [Nat.eq_of_beq_eq_true h]; rfl
  | false => exact pick_map f q ks
theorem shape_at {T : Nat → Type} (ks : List Nat) : ∀ (l : List (DVal T)) (i q : Nat), shapeB ks i l = true → memB ks (i + q) = false → nth l q .undef = .undef
 | [], _, _, _, _ => rfl
 | v :: r, i, 0, h, hm => by
  unfold shapeB at h
  rw [show memB ks i = false from hm] at h
  have := (Bool.and_eq_true _ _ ▸ h).1
  cases v <;> first | rfl | cases this
 | v :: r, i, q + 1, h, hm => by
  unfold shapeB at h
  have := (Bool.and_eq_true _ _ ▸ h).2
  exact shape_at ks r (i + 1) q this (by rw [show i + 1 + q = i + (q + 1) by omega]; exact hm)
theorem shape_eq {T : Nat → Type} {ks : List Nat} {l : List (DVal T)} (h : shapeB ks 0 l = true) : l = slots (ks.map fun j => (j, nth l j .undef)) l.length := by
 refine List.ext_getElem (by simp [slots]) fun q h1 h2 => ?_
 have e1 : nth l q .undef = l[q] := by rw [nth_eq, List.getD_eq_getElem?_getD, List.getElem?_eq_getElem h1]; rfl
 simp only [slots, List.getElem_map, List.getElem_range, pick_map]
 cases hm : memB ks q with
 | true => exact e1.symm
 | false =>
  have := shape_at ks l 0 q h (by rw [Nat.zero_add]; exact hm)
  rw [← e1, this]; rfl
theorem zip_map_self {α β : Type} (f : α → β) : ∀ ks : List α, ks.zip (ks.map f) = ks.map fun j => (j, f j)
 | [] => rfl
 | k :: ks => by simp [zip_map_self f ks]
def ptrEqL {T : Nat → Type} : List (DVal T) → List (DVal T) → Bool
 | [], [] => true
 | .ptr o [] :: r, .ptr o' [] :: r' => Nat.beq o o' && ptrEqL r r'
 | _, _ => false
theorem ptrEqL_eq {T : Nat → Type} : ∀ (l l' : List (DVal T)), ptrEqL l l' = true → l = l'
 | [], [], _ => rfl
 | .ptr o [] :: r, .ptr o' [] :: r', h => by
  simp only [ptrEqL, Bool.and_eq_true] at h
  rw [Nat.eq_of_beq_eq_true h.1, ptrEqL_eq r r' h.2]
 | [], x :: r, h => by cases x <;> cases h
 | x :: r, [], h => by cases x <;> first | cases h | (rename_i p; cases p <;> cases h)
 | .ptr o [] :: r, .ptr o' (_ :: _) :: r', h => by cases h
 | .ptr o (_ :: _) :: r, y :: r', h => by cases y <;> cases h
 | .val .. :: _, _ :: _, h => by cases h
 | .nils :: _, _ :: _, h => by cases h
 | .own .. :: _, _ :: _, h => by cases h
 | .nilptr :: _, _ :: _, h => by cases h
 | .rptr .. :: _, _ :: _, h => by cases h
 | .agg .. :: _, _ :: _, h => by cases h
 | .tup .. :: _, _ :: _, h => by cases h
 | .fn .. :: _, _ :: _, h => by cases h
 | .nilfn :: _, _ :: _, h => by cases h
 | .ifc .. :: _, _ :: _, h => by cases h
 | .nilifc :: _, _ :: _, h => by cases h
 | .stale .. :: _, _ :: _, h => by cases h
 | .undef :: _, _ :: _, h => by cases h
 | .ptr o [] :: r, .val .. :: _, h => by cases h
 | .ptr o [] :: r, .nils :: _, h => by cases h
 | .ptr o [] :: r, .own .. :: _, h => by cases h
 | .ptr o [] :: r, .nilptr :: _, h => by cases h
 | .ptr o [] :: r, .rptr .. :: _, h => by cases h
 | .ptr o [] :: r, .agg .. :: _, h => by cases h
 | .ptr o [] :: r, .tup .. :: _, h => by cases h
 | .ptr o [] :: r, .fn .. :: _, h => by cases h
 | .ptr o [] :: r, .nilfn :: _, h => by cases h
 | .ptr o [] :: r, .ifc .. :: _, h => by cases h
 | .ptr o [] :: r, .nilifc :: _, h => by cases h
 | .ptr o [] :: r, .stale .. :: _, h => by cases h
 | .ptr o [] :: r, .undef :: _, h => by cases h
def dEqb {T : Nat → Type} : List (FuncId × List (DVal T)) → List (FuncId × List (DVal T)) → Bool
 | [], [] => true
 | (f, l) :: r, (f', l') :: r' => Nat.beq f f' && (ptrEqL l l' && dEqb r r')
 | _, _ => false
theorem dEqb_eq {T : Nat → Type} : ∀ (l l' : List (FuncId × List (DVal T))), dEqb l l' = true → l = l'
 | [], [], _ => rfl
 | (f, l) :: r, (f', l') :: r', h => by
  simp only [dEqb, Bool.and_eq_true] at h
  have h1 : f = f' := Nat.eq_of_beq_eq_true h.1
  rw [h1, ptrEqL_eq l l' h.2.1, dEqb_eq r r' h.2.2]
 | [], _ :: _, h => by cases h
 | _ :: _, [], h => by cases h
def closedOf (E : Env) (n : Nat) (ks : List Nat) (mvs : List (Nat × Nat)) (d : List (FuncId × List (DVal E.T))) (g : List (DVal E.T) → St E.T → Tree (CodeOut E)) (fr : Fr E.T) (st : St E.T) : Tree (CodeOut E) :=
 match headOf E ks mvs st.length fr st with
 | some (fr', st') => bif Nat.beq st'.length st.length && (Nat.beq fr'.s.length n && (dEqb fr'.d d && shapeB ks 0 fr'.s)) then g (ks.map fun j => nth fr'.s j .undef) st' else .fail
 | none => .fail
def ofSlots (E : Env) (n : Nat) (d : List (FuncId × List (DVal E.T))) (ks : List Nat) (vals : List (DVal E.T)) : Fr E.T := { s := slots (ks.zip vals) n, d := d }
theorem closed_ok {n : Nat} {ks : List Nat} {mvs : List (Nat × Nat)} {d : List (FuncId × List (DVal E.T))} {g : List (DVal E.T) → St E.T → Tree (CodeOut E)} {step : Fr E.T → St E.T → Tree (CodeOut E)} (h : ∀ vals st out, (g vals st).get = some out → LoopTo step ks mvs st.length (ofSlots E n d ks vals) st out)
  (fr : Fr E.T) (st : St E.T) (out : CodeOut E) (hc : (closedOf E n ks mvs d g fr st).get = some out) : ∃ m fr', (loopT E step ks mvs st.length m fr st).get = some (out.1, fr', out.2.2) ∧ Weak out.2.1 fr' := by
 unfold closedOf at hc
 cases hh : headOf E ks mvs st.length fr st with
 | none => rw [hh] at hc; cases hc
 | some p =>
  obtain ⟨fr', st'⟩ := p
  rw [hh] at hc
  simp only at hc
  cases hb : (Nat.beq st'.length st.length && (Nat.beq fr'.s.length n && (dEqb fr'.d d && shapeB ks 0 fr'.s))) with
  | false => rw [hb] at hc; cases hc
  | true =>
   rw [hb] at hc
   simp only [Bool.and_eq_true] at hb
   obtain ⟨h0, h1, h2, h3⟩ := hb
   have e1 := shape_eq h3
   rw [Nat.eq_of_beq_eq_true h1] at e1
   have e2 : fr' = ofSlots E n d ks (ks.map fun j => nth fr'.s j .undef) := by
    unfold ofSlots
    rw [zip_map_self, ← e1, ← dEqb_eq _ _ h2]
   obtain ⟨m, hm⟩ := h _ st' out hc
   rw [Nat.eq_of_beq_eq_true h0] at hm
   obtain ⟨fr2, h5, h6⟩ := hm fr st (by rw [hh, e2.symm])
   exact ⟨m, fr2, h5, h6⟩
end
end
open Go
noncomputable section
theorem tym_of {P : Program} {E : Env} {t : TypeId} {ty : Ty} {i : TypeInfo} (h1 : P.info? t = some i) (h2 : i.size = E.size ty) (h3 : i.bytes ≤ 8192) (h4 : i.zero = some (toV ty (zeroC E depth ty))) (h5 : Desc P E t ty) (h6 : zOk E depth ty = true) : TyM P E t ty := ⟨⟨_, h1, h2, h3, h4⟩, h5, h6⟩
theorem memB_mem {l : List Nat} {t : Nat} (h : memB l t = true) : t ∈ l := by
 unfold memB at h
 obtain ⟨x, hx, he⟩ := List.any_eq_true.1 h
 rw [Nat.eq_of_beq_eq_true he]
 exact hx
theorem cmp_of (P : Program) (l : List Nat) (h : (l.all fun t => (!P.eqGuardType P.depth t) && ((!P.stoodInHeld t) && (match P.underlying t with | some (.struct fs) => fs.toList.all (fun f => memB l f.type) | some (.array _ e) => memB l e | _ => true))) = true)
  (t : Nat) (ht : memB l t = true) : P.eqGuardType P.depth t = false ∧ P.stoodInHeld t = false ∧ (∀ fs, P.underlying t = some (.struct fs) → ∀ f ∈ fs.toList, memB l f.type = true) ∧ ∀ n e, P.underlying t = some (.array n e) → memB l e = true := by
 have := List.all_eq_true.1 h t (memB_mem ht)
 simp only [Bool.and_eq_true, Bool.not_eq_true'] at this
 refine ⟨this.1, this.2.1, fun fs hfs f hf => ?_, fun n e hfs => ?_⟩
 ·have h2 := this.2.2
  rw [hfs] at h2
  exact List.all_eq_true.1 h2 f hf
 ·have h2 := this.2.2
  rw [hfs] at h2
  exact h2
end
open Go
noncomputable section
def cloneF (E : Env) (te : Ty) (args : List (DVal E.T)) (st : St E.T) : Tree (Res E.T × St E.T) :=
 match args with
 | [.val (.slice t) xs] => bif tyEqb t te then .ret (.ret [.own st.length], st ++ [.arr .live t xs]) else .fail
 | _ => .fail
section
variable {P : Program} {E : Env} {w w' : World} {σ : Sg} {st : St E.T}
theorem nil_own {te : Ty} {e : Ending} (h : Back E σ st st w (.ret [.nils]) e w') : Back E σ st (st ++ [.arr .live te []]) w (.ret [.own st.length]) e w' := by
 obtain ⟨σ', m, hr⟩ := h
 cases e with
 | returned v =>
  have hv : VRep E σ' st w' (MB σ' st) .nils v := hr
  obtain ⟨a, rfl⟩ := nilsRep hv
  have hp := Mv.push0 (E := E) m.rep (.slice a 0 0) (.arr .live te []) (by cases a <;> rfl) (fun σ' st' w' M' => .arr .live te [] _ ⟨Nat.zero_le _, .inl ⟨⟨a, rfl⟩, rfl⟩⟩)
  refine ⟨_, m.trans (Mv.x (ks := []) hp).f, ?_⟩
  have h1 : VRep E (setN σ' st.length (.slice a 0 0)) (st ++ [.arr .live te []]) w' (MB (setN σ' st.length (.slice a 0 0)) (st ++ [.arr .live te []])) (.own st.length) (toV (.slice te) [(setN σ' st.length (.slice a 0 0)) st.length]) :=
   .data _ _ _ (.own st.length .live te [] (by rw [nth?_eq]; simp))
  have h2 : (setN σ' st.length (.slice a 0 0)) st.length = .slice a 0 0 := by simp [setN]
  rw [h2] at h1
  exact h1
 | panicked ch => exact hr.elim
 | outgrown => exact hr.elim
structure CloneFacts (E : Env) (fn : Func) (te : Ty) (R0 C R : Code) (F0 F2 : List (I E.T te) → Fr E.T) (F3 : List (I E.T te) → Nat → Fr E.T) : Prop where
 r0 : ∀ xs st, (dcode E (fun _ => none) (noL E) 0 0 R0 (frame E fn [.val (.slice te) xs]) st).get = some (.normal, F0 xs, st)
 s0 : ∀ xs, dget E (F0 xs) (.tmp 0) = .val (.slice te) xs
 s3 : ∀ xs, dget E (put E (F0 xs) (some 3) (.val (.slice te) xs)) (.tmp 3) = .val (.slice te) xs
 c1 : ∀ xs st, (dcode E (fun _ => none) (noL E) 0 0 C (put E (put E (F0 xs) (some 3) (.val (.slice te) xs)) (some 4) (.val .bool true)) st).get = some (.ret, F2 xs, st)
 c2 : ∀ xs st, (dcode E (fun _ => none) (noL E) 0 0 C (put E (put E (F0 xs) (some 3) (.val (.slice te) xs)) (some 4) (.val .bool false)) st).get = some (.normal, put E (put E (F0 xs) (some 3) (.val (.slice te) xs)) (some 4) (.val .bool false), st)
 r : ∀ xs st, (dcode E (fun _ => none) (noL E) 0 0 R (put E (put E (F0 xs) (some 3) (.val (.slice te) xs)) (some 4) (.val .bool false)) st).get = bif decide (List.length (α := I E.T te) xs ≤ lim) then some (.ret, F3 xs st.length, st ++ [.arr .live te xs]) else none
 d2 : ∀ xs, (F2 xs).d = []
 l2 : ∀ xs st n, (leave E (lookD []) true n fn (F2 xs) st none).get = some (.ret [.nils], st)
 l3 : ∀ xs st n, (leave E (lookD []) true n fn (F3 xs st.length) (st ++ [.arr .live te xs]) none).get = some (.ret [.own st.length], st ++ [.arr .live te xs])
theorem clone_fn (HS : Sound P E) (hmix : P.follows .mixedOrders = true) {f : FuncId} {fn : Func} {t : TypeId} {te : Ty} {R0 C R : Code} {id : Nat} {o1 o2 : Oper} {pan : TypeId} {F0 F2 : List (I E.T te) → Fr E.T} {F3 : List (I E.T te) → Nat → Fr E.T} (hf : P.funcs[f]? = some fn)
  (hb : fn.body = some (.seq R0 (.seq (.seq (.region id #[o1, o2] false) C) R))) (h1 : o1.op = .move (.tmp 0) ∧ o1.dst = some 3 ∧ o1.guard = none)
  (h2 : o2.op = .binOp .eql t (.tmp 3) (.const (.slice none 0 0)) pan ∧ o2.dst = some 4 ∧ o2.guard = none) (ht : ∃ e, P.underlying t = some (.slice e)) (hF : CloneFacts E fn te R0 C R F0 F2 F3) : FnOk P E f (cloneF E te) := by
 intro σ st w ds us r st' hst hds h
 unfold cloneF at h
 split at h
 ·rename_i t' xs
  rw [cond_eq_ite] at h
  split at h
  ·rename_i hte
   have := tyEqb_eq hte
   subst this
   cases h
   have HC : CallOk P E (fun _ => none) := callOk HS (fun f s h => by cases h)
   have HD : ∀ g F, lookD ([] : List (Nat × DSpec E)) g = some F → DSpecOk P E g F := fun g F h => by cases h
   have lp : ∀ (c : Code) (i : Nat), LoopsOk (fun _ => none) (noL E) 0 i c := fun c i => loopsOk_open (fun _ => rfl) c i
   obtain ⟨e, hte⟩ := ht
   refine calls_of_wp_defers hf hb (wp_seq (dcode_ok HS hmix HC R0 0 (lp _ _) hst (frame_ok hds) (hF.r0 xs st) (fun σ1 w1 a1 x1 m1 hfr1 hx1 => ?_)))
   cases hx1
   refine wp_seq (wp_seq (wp_region ?_))
   obtain ⟨d1, p1, ty1, pos1, af1, g1⟩ := o1
   obtain ⟨d2, p2, ty2, pos2, af2, g2⟩ := o2
   obtain ⟨rfl, rfl, rfl⟩ := h1
   obtain ⟨rfl, rfl, rfl⟩ := h2
   have hd0 := hF.s0 xs
   show wpOps P _ _ [0, 1] a1 w1
   unfold wpOps
   simp only [List.getElem?_toArray, List.getElem?_cons_zero]
   rw [if_pos (show Region.wanted _ _ = true from rfl)]
   left
   refine dop_ok HS HC (S := fun _ => none) (dr := false) (out := .next (put E (F0 xs) (some 3) (.val (.slice _) xs)) st) m1.rep hfr1 ?_ ?_
   ·simp only [dop]
    rw [hd0]; rfl
   intro σ2 w2 a2 m2 hfr2
   have hv := dget_ok hfr2 (.tmp 3)
   rw [hF.s3] at hv
   have hev : ∃ (a : Option Addr) (n cap : Nat), a2.eval (.tmp 3) = .slice a n cap ∧ (a = none → xs = []) ∧ List.length (α := I E.T _) xs ≤ lim := by
    generalize a2.eval (.tmp 3) = u3 at hv
    cases hv with
    | data _ _ cs hc =>
     cases hc with
     | val _ _ _ hc =>
      cases hc with
      | slice _ _ a cap cs hl hm hn hc =>
       refine ⟨a, _, cap, rfl, fun ha => ?_, hn⟩
       rcases hm with hm | hm
       ·exact hm
       ·subst ha
        obtain ⟨b, o, h0, _⟩ := hm
        cases h0
   obtain ⟨a, n, cap, hev, hxs, hlim⟩ := hev
   unfold wpOps
   simp only [List.getElem?_toArray, List.getElem?_cons_succ, List.getElem?_cons_zero]
   rw [if_pos (show Region.wanted _ _ = true from rfl)]
   left
   refine post_still (v := .val .bool a.isNone) m2.rep hfr2 ⟨.bool a.isNone, by rw [hev]; exact Lib.run_eql_slice_nil w2 t e a n cap 0 0 hte, mkBool _⟩ rfl ?_
   intro σ3 w3 a3 m3 hfr3
   cases a with
   | none =>
    obtain rfl := hxs rfl
    refine dcode_ok HS hmix HC C 0 (lp _ _) m3.rep hfr3 (hF.c1 [] st) (fun σ4 w4 a4 x4 m4 hfr4 hx4 => ?_)
    cases hx4
    have hl := leave_ok (keep := true) HS HD (m1.trans (m2.trans (m3.trans m4))) hfr4 .none (fun v h => by cases h) (hF.l2 [] st st.length)
    have hdd := hfr4.d
    rw [hF.d2] at hdd
    have hde : a4.defers = [] := by
     generalize a4.defers = ds at hdd
     cases hdd
     rfl
    rw [hde] at hl
    obtain ⟨v, hv, hbk⟩ := hl
    show Leaves P fn a4.tmps _ a4.defers .returning w4
    rw [hde]
    exact ⟨v, hv, nil_own hbk⟩
   | some a =>
    refine dcode_ok HS hmix HC C 0 (lp _ _) m3.rep hfr3 (hF.c2 xs st) (fun σ4 w4 a4 x4 m4 hfr4 hx4 => ?_)
    cases hx4
    refine dcode_ok HS hmix HC R 0 (lp _ _) m4.rep hfr4 (by rw [hF.r xs st, decide_eq_true hlim]; rfl) (fun σ5 w5 a5 x5 m5 hfr5 hx5 => ?_)
    cases hx5
    exact leave_ok (keep := true) HS HD (m1.trans (m2.trans (m3.trans (m4.trans m5)))) hfr5 .none (fun v h => by cases h) (hF.l3 xs st st.length)
  ·cases h
 ·cases h
end
end
open Go Go.ChangeShapes Go.RowKit
noncomputable section
structure Meas {H : Type} (μ : DataW H → Nat) : Prop where
 str : ∀ b, b.length ≤ μ (.lit (.string b))
 len : ∀ l r, l.length ≤ μ (.slice l r)
 el : ∀ l r d, d ∈ l → μ d ≤ μ (.slice l r)
 part : ∀ l d, d ∈ l → μ d ≤ μ (.agg l)
section
variable (E : Env) (B : Nat)
def wfHL (f : (t : Ty) → I E.T t → Prop) : (ts : List Ty) → HL E.T ts → Prop
 | [], _ => True
 | t :: ts, x => f t x.1 ∧ wfHL f ts x.2
def wfI : Nat → (t : Ty) → I E.T t → Prop
 | 0, _, _ => True
 | d + 1, t, x =>
  match t with
  | .bool => True
  | .int k => k.min ≤ toI k x ∧ toI k x ≤ k.max
  | .str => List.length (α := UInt8) x ≤ B
  | .slice e => List.length (α := I E.T e) x ≤ B ∧ ∀ y ∈ (show List (I E.T e) from x), wfI d e y
  | .arr n e => List.length (α := I E.T e) x = n ∧ ∀ y ∈ (show List (I E.T e) from x), wfI d e y
  | .named i => wfHL E (wfI d) (E.fields i) (E.out i x)
end
section
variable {P : Program} {E : Env} {H : Type} {enc : TypeId × Value → H} {w w' : World} {B : Nat} {μ : DataW H → Nat}
theorem cells_at {base : Nat} {a : Addr} {n : Nat} {cs : List Value} (h : w.cells? base a n = some cs) : cs.length = n ∧ ∀ i, i < n → w.cell? (a.add i) = cs[i]? := by
 unfold World.cells? at h
 split at h
 ·refine ⟨by simpa using mapM_some_length h, fun i hi => ?_⟩
  exact mapM_some_get h i i (by simp [hi])
 ·cases h
theorem add_zero (a : Addr) : a.add 0 = a := by unfold Addr.add; simp
theorem cell_spot {a : Addr} {v : Value} (h : w.cell? a = some v) : a = ⟨a.block, a.off, none⟩ := by
 unfold World.cell? at h
 split at h
 ·split at h
  ·cases h
  ·rename_i hs
   obtain ⟨b, o, s⟩ := a
   simp at hs
   subst hs
   rfl
 ·cases h
theorem cellsOf_eq {t : TypeId} {ty : Ty} (HS : Sound P E) (h : E.tk t = .data ty) : P.cellsOf t = E.size ty := by
 obtain ⟨i, hi, hs, _⟩ := (HS.data t ty h).info
 unfold Program.cellsOf
 rw [hi]; exact hs
theorem foff_succ {i j : Nat} {ty : Ty} (h : nth? (E.fields i) j = some ty) : E.foff i (j + 1) = E.foff i j + E.size ty := by
 unfold Env.foff
 rw [nth?_eq] at h
 rw [List.take_add_one, h]
 simp
theorem crep_of (HS : Sound P E) (htl : ∀ t, E.tk t ≠ .other → t < P.types.size) (hz : ∀ t e, t < P.types.size → P.underlying t = some (.slice e) → 0 < P.cellsOf e) (hμ : Meas μ) (hB : B ≤ lim) {M : Nat → Prop} (hM : ∀ b, ¬ M b) : ∀ (fuel : Nat) {t : TypeId} {ty : Ty} {cs : List Value} {y : DataW H × List MemPlace}, E.tk t = .data ty →
  DataW.trod enc P w 0 (fun _ => true) true fuel t cs = some y → μ y.1 ≤ B → ∃ x : I E.T ty, CRep E w M ty x cs ∧ ∀ d, wfI E B d ty x := by
 intro fuel
 induction fuel with
 | zero => intro t ty cs y _ h; simp [DataW.trod] at h
 | succ fuel ih =>
  intro t ty cs y ht h hy
  have hd := (HS.data t ty ht).desc
  cases ty with
  | bool =>
   obtain ⟨b, rfl, rfl⟩ := DataW.trod_bool hd h
   exact ⟨b, .bool b, fun d => by cases d <;> exact trivial⟩
  | int k =>
   obtain ⟨n, rfl, rfl, hw⟩ := DataW.trod_int hd h
   simp only [Lit.wf, Bool.and_eq_true, decide_eq_true_eq] at hw
   have htn : toI k (ofI k n) = n := toI_ofI k n (fun hk => by
    subst hk
    simp [IntKind.min, IntKind.max, IntKind.signed, IntKind.bits] at hw
    omega)
   refine ⟨ofI k n, ?_, fun d => ?_⟩
   ·have := CRep.int (E := E) (w := w) (M := M) k (ofI k n)
    rwa [htn] at this
   ·cases d with
    | zero => exact trivial
    | succ d => show k.min ≤ toI k (ofI k n) ∧ toI k (ofI k n) ≤ k.max; rw [htn]; exact hw
  | str =>
   obtain ⟨s, rfl, rfl, hs⟩ := DataW.trod_string hd h
   have hl := hμ.str s.data.toList
   have hsz : s.data.toList.length = s.size := Array.length_toList
   refine ⟨s.data.toList, .str s (by simp only at hy; omega), fun d => ?_⟩
   cases d with
   | zero => exact trivial
   | succ d => show s.data.toList.length ≤ B; simp only at hy; omega
  | slice e =>
   obtain ⟨te, hu, hte⟩ := hd
   rcases DataW.trod_slice hu h with ⟨rfl, rfl⟩ | ⟨a, len, cap, elems, rest, n, hn, rfl, rfl, _, hl, hmx, hel, hx, _⟩
   ·refine ⟨[], .slice e [] none 0 [] (.nil e) (.inl rfl) (Nat.zero_le _) (Nat.le_refl _), fun d => ?_⟩
    cases d with
    | zero => exact trivial
    | succ d => exact ⟨Nat.zero_le _, fun y hy => by cases hy⟩
   ·cases hn
    have hpos : 0 < P.cellsOf te := hz t te (htl t (by rw [ht]; exact fun h => by cases h)) hu
    have hsz := cellsOf_eq HS hte
    have hlenB : len ≤ B := by
     have := hμ.len (elems.map (·.1)) (rest.map (·.1))
     rw [List.length_map, hel] at this
     exact Nat.le_trans this hy
    have helB : ∀ p ∈ elems, μ p.1 ≤ B := fun p hp => Nat.le_trans (hμ.el _ _ _ (List.mem_map.2 ⟨p, hp, rfl⟩)) hy
    have rows : ∀ k, k ≤ len → ∃ (xs : List (I E.T e)) (c : List Value), xs.length = k ∧ LRep E w M e xs c ∧ (∀ q u, c[q]? = some u → w.cell? (a.add q) = some u) ∧ ∀ y ∈ xs, ∀ d, wfI E B d e y := by
     intro k
     induction k with
     | zero => intro _; exact ⟨[], [], rfl, .nil e, fun q u hq => by simp at hq, fun y hy => by cases hy⟩
     | succ k ihk =>
      intro hk
      obtain ⟨xs, c, h1, h2, h3, h4⟩ := ihk (by omega)
      have hkx := hx k (by omega)
      have hke : elems[k]? = some (elems[k]'(by omega)) := List.getElem?_eq_getElem _
      rw [hke] at hkx
      obtain ⟨cs1, hc1, ht1⟩ := Option.bind_eq_some_iff.1 hkx
      obtain ⟨x, hx1, hx2⟩ := ih hte ht1 (helB _ (List.getElem_mem _))
      obtain ⟨hcl, hcc⟩ := cells_at hc1
      have hlr := LRep.append h2 (.cons e x [] cs1 [] hx1 (.nil e))
      rw [List.append_nil] at hlr
      refine ⟨xs ++ [x], c ++ cs1, by simp [h1], hlr, fun q u hq => ?_, fun y hy => ?_⟩
      ·have hclen := LRep.len HS.toEnvOk h2
       rw [h1, ← hsz] at hclen
       by_cases hqc : q < c.length
       ·rw [List.getElem?_append_left hqc] at hq
        exact h3 q u hq
       ·rw [List.getElem?_append_right (by omega)] at hq
        have hq2 := (List.getElem?_eq_some_iff.1 hq).1
        have h5 := hcc (q - c.length) (by omega)
        rw [hq] at h5
        have h6 : (a.add (k * P.cellsOf te)).add (q - c.length) = a.add q ∨ q - c.length = 0 ∧ q = k * P.cellsOf te := by
         by_cases h0 : q - c.length = 0
         ·right; exact ⟨h0, by omega⟩
         ·left
          unfold Addr.add
          by_cases h7 : k * P.cellsOf te = 0
          ·rw [if_pos h7, if_neg h0, if_neg (by omega)]
           congr 1
           omega
          ·rw [if_neg h7, if_neg h0, if_neg (by omega)]
           simp only
           congr 1
           omega
        rcases h6 with h6 | ⟨h6, h7⟩
        ·rw [← h6]; exact h5
        ·rw [h6, add_zero] at h5
         rw [h7]; exact h5
      ·rcases List.mem_append.1 hy with hy | hy
       ·exact h4 y hy
       ·simp at hy; subst hy; exact hx2
    obtain ⟨xs, c, h1, h2, h3, h4⟩ := rows len (Nat.le_refl _)
    have hc := CRep.slice (E := E) (w := w) (M := M) e xs (some a) cap c h2 (by
     by_cases h0 : xs = []
     ·exact .inl h0
     ·right
      have hlen0 : 0 < xs.length := List.length_pos_iff.2 h0
      have hcl := LRep.len HS.toEnvOk h2
      rw [← hsz] at hcl
      have hc0 : 0 < c.length := by rw [hcl]; exact Nat.mul_pos hlen0 hpos
      have h5 := h3 0 _ (List.getElem?_eq_getElem hc0)
      rw [add_zero] at h5
      have hsp := cell_spot h5
      refine ⟨a.block, a.off, by rw [← hsp], hM _, cell_lt h5, fun q u hq => ?_⟩
      have := h3 q u hq
      rw [hsp, addr_add] at this
      exact this) (by omega) (by omega)
    rw [h1] at hc
    refine ⟨xs, hc, fun d => ?_⟩
    cases d with
    | zero => exact trivial
    | succ d => exact ⟨by rw [h1]; exact hlenB, fun y hy => h4 y hy d⟩
  | arr n e =>
   obtain ⟨te, hu, hte⟩ := hd
   obtain ⟨ys, m, hm, rfl, hcl, hyl, hx⟩ := DataW.trod_array hu h
   cases hm
   have hsz := cellsOf_eq HS hte
   have hsa := cellsOf_eq HS ht
   have hyB : ∀ p ∈ ys, μ p.1 ≤ B := fun p hp => Nat.le_trans (hμ.part _ _ (List.mem_map.2 ⟨p, hp, rfl⟩)) hy
   rw [hsa] at hcl
   simp only [Env.size] at hcl
   have rows : ∀ k, k ≤ n → ∃ (xs : List (I E.T e)), xs.length = k ∧ LRep E w M e xs (cs.take (k * E.size e)) ∧ ∀ y ∈ xs, ∀ d, wfI E B d e y := by
    intro k
    induction k with
    | zero => intro _; exact ⟨[], rfl, by simp; exact .nil e, fun y hy => by cases hy⟩
    | succ k ihk =>
     intro hk
     obtain ⟨xs, h1, h2, h4⟩ := ihk (by omega)
     have hkx := hx k (by omega)
     have hke : ys[k]? = some (ys[k]'(by omega)) := List.getElem?_eq_getElem _
     rw [hke] at hkx
     obtain ⟨x, hx1, hx2⟩ := ih hte hkx (hyB _ (List.getElem_mem _))
     have hlr := LRep.append h2 (.cons e x [] _ [] hx1 (.nil e))
     rw [List.append_nil, hsz, ← List.take_add] at hlr
     refine ⟨xs ++ [x], by simp [h1], by rw [Nat.add_mul, Nat.one_mul]; exact hlr, fun y hy => ?_⟩
     rcases List.mem_append.1 hy with hy | hy
     ·exact h4 y hy
     ·simp at hy; subst hy; exact hx2
   obtain ⟨xs, h1, h2, h4⟩ := rows n (Nat.le_refl _)
   rw [List.take_of_length_le (by omega)] at h2
   refine ⟨xs, .arr n e xs cs h1 h2, fun d => ?_⟩
   cases d with
   | zero => exact trivial
   | succ d => exact ⟨h1, fun y hy => h4 y hy d⟩
  | named i =>
   obtain ⟨fs, hu, hfl, hf⟩ := hd
   obtain ⟨ys, m, hm, rfl, hcl, hyl, hx⟩ := DataW.trod_struct hu h
   cases hm
   have hsa := cellsOf_eq HS ht
   have hyB : ∀ p ∈ ys, μ p.1 ≤ B := fun p hp => Nat.le_trans (hμ.part _ _ (List.mem_map.2 ⟨p, hp, rfl⟩)) hy
   rw [hsa] at hcl
   simp only [Env.size] at hcl
   have rows : ∀ (k j : Nat), k + j = (E.fields i).length → ∃ r : HL E.T ((E.fields i).drop j), FRep E w M ((E.fields i).drop j) r (cs.drop (E.foff i j)) ∧ ∀ d, wfHL E (wfI E B d) ((E.fields i).drop j) r := by
    intro k
    induction k with
    | zero =>
     intro j hj
     have hdr : (E.fields i).drop j = [] := List.drop_of_length_le (by omega)
     have hoff : E.foff i j = cs.length := by
      rw [hcl, HS.toEnvOk.nsize]
      unfold Env.foff
      rw [List.take_of_length_le (by omega)]
     rw [hdr, hoff, List.drop_length]
     exact ⟨(), .nil, fun d => trivial⟩
    | succ k ihk =>
     intro j hj
     obtain ⟨r, hr, hw⟩ := ihk (j + 1) (by omega)
     have hjf : j < fs.size := by omega
     have hfj : fs[j]? = some fs[j] := Array.getElem?_eq_getElem _
     obtain ⟨ty, h1, h2, h3, h4, h5⟩ := hf j _ hfj
     have hxj := hx j _ hfj
     have hyj : ys[j]? = some (ys[j]'(by omega)) := List.getElem?_eq_getElem _
     rw [hyj] at hxj
     obtain ⟨x, hx1, hx2⟩ := ih h2 hxj (hyB _ (List.getElem_mem _))
     rw [h3, cellsOf_eq HS h2] at hx1
     have hdr : (E.fields i).drop j = ty :: (E.fields i).drop (j + 1) := by
      rw [nth?_eq] at h1
      obtain ⟨hlt, he⟩ := List.getElem?_eq_some_iff.1 h1
      rw [← he]
      exact List.drop_eq_getElem_cons hlt
     rw [foff_succ h1] at hr
     rw [hdr]
     refine ⟨(x, r), ?_, fun d => ⟨hx2 d, hw d⟩⟩
     have hcat : cs.drop (E.foff i j) = (cs.drop (E.foff i j)).take (E.size ty) ++ cs.drop (E.foff i j + E.size ty) := by rw [← List.drop_drop, List.take_append_drop]
     rw [hcat]
     exact .cons ty _ x r _ _ hx1 hr
   have hall : ∃ r : HL E.T (E.fields i), FRep E w M (E.fields i) r cs ∧ ∀ d, wfHL E (wfI E B d) (E.fields i) r := by
    have h := rows (E.fields i).length 0 (by omega)
    have h0 : E.foff i 0 = 0 := by simp [Env.foff]
    rw [h0] at h
    exact h
   obtain ⟨r, hr, hw⟩ := hall
   refine ⟨E.into i r, .named i _ cs (by rw [HS.toEnvOk.out_into]; exact hr), fun d => ?_⟩
   cases d with
   | zero => exact trivial
   | succ d => show wfHL E (wfI E B d) (E.fields i) (E.out i (E.into i r)); rw [HS.toEnvOk.out_into]; exact hw d
theorem tbl_lt {tbl : List TK} (htk : ∀ t, E.tk t = nth tbl t .other) (h : tbl.length ≤ P.types.size) : ∀ t, E.tk t ≠ .other → t < P.types.size := by
 intro t ht
 rcases Nat.lt_or_ge t tbl.length with h1 | h1
 ·exact Nat.lt_of_lt_of_le h1 h
 ·exfalso
  apply ht
  rw [htk, nth_eq, List.getD_eq_getElem?_getD, List.getElem?_eq_none h1]
  rfl
inductive ArgsOk (E : Env) (B : Nat) : List Ty → List (DVal E.T) → Prop where
 | nil : ArgsOk E B [] []
 | cons (t : Ty) (ts : List Ty) (x : I E.T t) (ds : List (DVal E.T)) (h : ∀ d, wfI E B d t x) (h' : ArgsOk E B ts ds) : ArgsOk E B (t :: ts) (.val t x :: ds)
theorem toV_of (HS : Sound P E) {t : TypeId} {ty : Ty} {r : Reach} {base : Nat} {v : Value} (ht : E.tk t = .data ty) (h : Value.okWide P w r base t v) : toV ty v.cells.toList = v := by
 have hd := (HS.data t ty ht).desc
 cases ty with
 | bool =>
  unfold Value.okWide at h
  rw [hd] at h
  unfold Cell.okWide Cell.ok at h
  rw [hd] at h
  cases v <;> simp at h <;> rfl
 | int k =>
  unfold Value.okWide at h
  rw [hd] at h
  unfold Cell.okWide Cell.ok at h
  rw [hd] at h
  cases v <;> simp at h <;> rfl
 | str =>
  unfold Value.okWide at h
  rw [hd] at h
  unfold Cell.okWide Cell.ok at h
  rw [hd] at h
  cases v <;> simp at h <;> rfl
 | slice e =>
  obtain ⟨te, hu, _⟩ := hd
  unfold Value.okWide at h
  rw [hu] at h
  unfold Cell.okWide Cell.ok at h
  rw [hu] at h
  cases v <;> simp at h <;> rfl
 | arr n e =>
  obtain ⟨te, hu, _⟩ := hd
  unfold Value.okWide at h
  rw [hu] at h
  obtain ⟨cs, rfl, _⟩ := h
  simp [toV, isAggTy, Value.cells]
 | named i =>
  obtain ⟨fs, hu, _⟩ := hd
  unfold Value.okWide at h
  rw [hu] at h
  obtain ⟨cs, rfl, _⟩ := h
  simp [toV, isAggTy, Value.cells]
theorem args_ok (HS : Sound P E) (htl : ∀ t, E.tk t ≠ .other → t < P.types.size) (hz : ∀ t e, t < P.types.size → P.underlying t = some (.slice e) → 0 < P.cellsOf e) (hμ : Meas μ) (hB : B ≤ lim) {M : Nat → Prop} (hM : ∀ b, ¬ M b) {r : Reach} {base : Nat} (σ : Sg) (st : St E.T) : ∀ (ts : List TypeId) (ps : List Ty) (us : List Value) (ds : List (DataW H)) (pl : List MemPlace),
  ts.map E.tk = ps.map .data → DataW.TrodAll enc P w 0 (fun _ => true) true ts us ds pl → (∀ d ∈ ds, μ d ≤ B) → (∀ (j : Nat) t v, ts[j]? = some t → us[j]? = some v → Value.okWide P w r base t v) →
  ∃ xs, ArgsOk E B ps xs ∧ VReps E σ st w M xs us
 | [], [], us, ds, pl, _, h, _, _ => by
  obtain ⟨rfl, rfl, _⟩ := trodAll_nil h
  exact ⟨[], .nil, .nil⟩
 | [], _ :: _, us, ds, pl, hp, _, _, _ => by cases hp
 | _ :: _, [], us, ds, pl, hp, _, _, _ => by cases hp
 | t :: ts, ty :: ps, us, ds, pl, hp, h, hb, hok => by
  obtain ⟨v, vs, d, ds', p, q, rfl, rfl, rfl, ⟨n, h1⟩, h2⟩ := trodAll_cons h
  simp only [List.map_cons, List.cons.injEq] at hp
  obtain ⟨x, hx1, hx2⟩ := crep_of HS htl hz hμ hB hM n hp.1 h1 (hb d (by simp))
  obtain ⟨xs, hxs, hr⟩ := args_ok HS htl hz hμ hB hM σ st ts ps vs ds' q hp.2 h2 (fun d' hd' => hb d' (by simp [hd'])) (fun j t' v' h3 h4 => hok (j + 1) t' v' (by simpa using h3) (by simpa using h4))
  refine ⟨.val ty x :: xs, .cons ty ps x xs hx2 hxs, .cons _ _ _ _ ?_ hr⟩
  have hv := VRep.data (E := E) (σ := σ) (st := st) (w := w) (M := M) ty _ _ (.val ty x _ hx1)
  rw [toV_of HS hp.1 (hok 0 t v rfl rfl)] at hv
  exact hv
theorem trod_stay (hl : laidOutB P = true) : ∀ (ts : List TypeId) {us : List Value} {ds : List (DataW H)} {pl : List MemPlace}, (∀ t ∈ ts, P.readableRec t = true ∧ t < P.types.size) → DataW.TrodAll enc P w 0 (fun _ => true) true ts us ds pl → (∀ p ∈ pl, w.sameAt w' p) →
  ∀ sp : Nat → Bool, (∀ p ∈ pl, sp p.block = true) → DataW.TrodAll enc P w' 0 sp true ts us ds pl
 | [], us, ds, pl, _, h, _, sp, _ => by
  obtain ⟨rfl, rfl, rfl⟩ := trodAll_nil h
  exact trodAll_mk0
 | t :: ts, us, ds, pl, ht, h, hs, sp, hsp => by
  obtain ⟨v, vs, d, ds', p, q, rfl, rfl, rfl, h1, h2⟩ := trodAll_cons h
  have h3 := ht t (by simp)
  exact trodAll_cons_mk (WideElems.Trod_stays hl h3.1 h3.2 h1 (fun x hx => hs x (by simp [hx])) (fun x hx => hsp x (by simp [hx])))
   (trod_stay hl ts (fun t' ht' => ht t' (by simp [ht'])) h2 (fun x hx => hs x (by simp [hx])) sp (fun x hx => hsp x (by simp [hx])))
theorem law_contract (HS : Sound P E) (htl : ∀ t, E.tk t ≠ .other → t < P.types.size) (hl : laidOutB P = true) (hz : ∀ t e, t < P.types.size → P.underlying t = some (.slice e) → 0 < P.cellsOf e) (hμ : Meas μ) (hB : B ≤ lim) {fid : FuncId} {fn : Func} {tb : TypeId} (hrt : fn.resultTypes = #[tb]) (htb : P.underlying tb = some .bool)
  {ps : List Ty} (hps : fn.params.toList.map E.tk = ps.map .data) (hrd : ∀ t ∈ fn.params.toList, P.readableRec t = true ∧ t < P.types.size) {s : ChangeSpec} (hv : s.vars = []) (hfn : ∀ ds : List (DataW H), ds.length = fn.params.toList.length → s.fn H ds = { results := [.lit (.bool true)], args := ds })
  {F : List (DVal E.T) → St E.T → Tree (Res E.T × St E.T)} (hF : FnOk P E fid F) (law : ∀ xs, ArgsOk E B ps xs → (F xs []).get = some (.ret [.val .bool true], []))
  (W : World) (base : Nat) (args : Array Value) (ds gs : List (DataW H)) (before : List MemPlace) (hval : ∀ (j : Nat) t v, fn.params[j]? = some t → args[j]? = some v → Value.okWide P W .any base t v)
  (hW : DataW.Whole enc P fn.params.toList s.vars false W args.toList ds gs before) (hk : ∀ d ∈ ds, μ d ≤ B) :
  Calls P fid args W fun e W' => ∃ v, e = .returned v ∧ s.post enc P fn false true false false W args v W' := by
 have hW' := hW
 have hlt := hW.lt
 obtain ⟨p, q, hA, hV, hbe, hfz, hnd⟩ := hW'
 have hgs : gs = [] ∧ q = [] := by
  rw [hv] at hV
  cases gs with
  | nil => exact ⟨rfl, hV⟩
  | cons g gs => exact hV.elim
 obtain ⟨rfl, rfl⟩ := hgs
 rw [List.append_nil] at hbe
 subst hbe
 obtain ⟨xs, hxs, hr⟩ := args_ok HS htl hz hμ hB (M := fun _ => False) (fun _ h => h) { f := fun _ => .tuple #[], m := fun _ => False } ([] : St E.T) fn.params.toList ps args.toList ds before hps hA hk (fun j t v h1 h2 => hval j t v (by simpa using h1) (by simpa using h2))
 have hst := amb_rep (E := E) (σ := { f := fun _ => .tuple #[], m := fun _ => False }) (w := W) (M := fun _ => False) (fun b hb => hb.elim)
 have hc := hF hst (VReps.keep (Kept.weaken fun b hb => MB_nil.1 hb) hr (fun k _ => Same.refl k)) (law xs hxs)
 rw [Array.toArray_toList] at hc
 refine hc.mono fun e W' hb => ?_
 obtain ⟨σ', m, hres⟩ := hb
 cases e with
 | returned v =>
  have hvb := boolRep (show VRep E σ' ([] : St E.T) W' (MB σ' ([] : St E.T)) (.val .bool true) v from hres)
  subst hvb
  have hsame : ∀ b, b < W.heap.size → W'.heap[b]? = W.heap[b]? := fun b hb => m.keep.block b hb (fun h => MB_nil.1 h)
  have hlen : ds.length = fn.params.toList.length := by
   have : ∀ (ts : List TypeId) (us : List Value) (ds : List (DataW H)) (pl : List MemPlace), DataW.TrodAll enc P W 0 (fun _ => true) true ts us ds pl → ds.length = ts.length := by
    intro ts
    induction ts with
    | nil => intro us ds pl h; obtain ⟨rfl, rfl, _⟩ := trodAll_nil h; rfl
    | cons t ts ih =>
     intro us ds pl h
     obtain ⟨v, vs, d, ds', p, q, rfl, rfl, rfl, _, h2⟩ := trodAll_cons h
     simp [ih _ _ _ h2]
   exact this _ _ _ _ hA
  have hsat : ∀ p ∈ before, W.sameAt W' p := by
   intro p hp
   have hb := hlt p hp
   cases p with
   | cell b off => exact cell_congr (hsame b hb)
   | map b => exact hsame b hb
  have hfn' := hfn ds hlen
  refine ⟨_, rfl, ds, [], before, [], before, [], hW, ?_, ?_, ?_, ?_, fun h => by cases h⟩
  ·rw [List.append_nil, hfn', hrt]
   exact trodAll_cons_mk (shut_bool htb true) trodAll_mk0
  ·rw [List.append_nil, hfn']
   exact trod_stay hl _ hrd hA hsat _ (fun p hp => by simpa using hlt p hp)
  ·rw [hv, List.append_nil, hfn']
   rfl
  ·refine ⟨m.keep.os, m.keep.output, fun i hi => ?_⟩
   rw [hsame i hi]
   generalize W.heap[i]? = o
   cases o with
   | none => rfl
   | some o =>
    cases o with
    | cells c t fr => exact ⟨rfl, rfl, rfl, fun _ _ => rfl⟩
    | map es clock => exact .inr ⟨rfl, rfl⟩
    | _ => rfl
 | panicked ch => exact hres.elim
 | outgrown => exact hres.elim
end
end
open Go
noncomputable section
def stepOf (E : Env) (S : List (Nat × Spec E)) (L : Nat → LoopInfo E) (N k : Nat) (fn : Func) : Fr E.T → St E.T → Tree (CodeOut E) :=
 match fn.body with
 | some c => match loopAt k c with
  | some cb => dcode E (lookS S) L N (k + 1) cb
  | none => fun _ _ => .fail
 | none => fun _ _ => .fail
theorem bodyC_ok {P : Program} {E : Env} (HS : Sound P E) (hmix : P.follows .mixedOrders = true) {S : List (Nat × Spec E)} (hS : AllS P E S) {SD : List (Nat × DSpec E)} (hD : AllD P E SD) {L : Nat → LoopInfo E} {N : Nat} {keep : Bool} {f : FuncId} {fn : Func} {c : Code} (hf : P.funcs[f]? = some fn) (hb : fn.body = some c)
  (h : ∀ k g, (L k).closed = some g → ∀ fr st out, (g fr st).get = some out → ∃ m fr', (loopT E (stepOf E S L N k fn) (L k).keep (L k).mvs st.length m fr st).get = some (out.1, fr', out.2.2) ∧ Weak out.2.1 fr') :
  FnOk P E f (dbody E (lookS S) (lookD SD) L N keep fn) := by
 refine dbody_ok HS hmix (callOk HS (lookS_ok hS)) (lookD_ok hD) hf hb (loopsOk_of c 0 fun k cb hk f' hf' => ?_)
 rw [Nat.zero_add] at hf' ⊢
 have := h k f' hf'
 unfold stepOf at this
 rw [hb] at this
 simp only [hk] at this
 exact this
structure LpI (E : Env) where
 ks : List Nat
 mvs : List (Nat × Nat) := []
 pro : List Adj := []
 d : List (FuncId × List (DVal E.T)) := []
 g : Option (List (DVal E.T) → St E.T → Tree (CodeOut E)) := none
def lpAt {E : Env} : List (LpI E) → Nat → Option (LpI E)
 | [], _ => none
 | l :: _, 0 => some l
 | _ :: r, i + 1 => lpAt r i
def clL (E : Env) (n : Nat) (ls : List (LpI E)) (rs : List (Nat × List Adj)) (i : Nat) : LoopInfo E :=
 match lpAt ls i with
 | some ⟨ks, mvs, pro, d, g⟩ => { keep := ks, mvs := mvs, pro := pro, closed := (match g with | some g => some (closedOf E n ks mvs d g) | none => none), reg := regOf rs i }
 | none => { keep := [], closed := none, reg := regOf rs i }
where
 regOf : List (Nat × List Adj) → Nat → List Adj
  | [], _ => []
  | (j, l) :: r, i => bif Nat.beq j i then l else regOf r i
end
end Go.Proofs.YthabbcjjecpbmaaGreat.D

namespace Go.Proofs.YthabbcjjecpbmaaGreat.N
open Go
@[reducible] def lim : Nat := 2147483648
@[reducible] def wi64 (n : Int) : Int := IntKind.i64.wrap n
@[reducible] def wu8 (n : Int) : Int := IntKind.u8.wrap n
@[reducible] def wu16 (n : Int) : Int := IntKind.u16.wrap n
@[reducible] def i8 (x : UInt8) : Int := (x.toNat : Int)
@[reducible] def b8 (n : Int) : UInt8 := UInt8.ofNat n.toNat
def inR (i : Int) (n : Nat) : Bool := decide (0 ≤ i) && decide (i < n)
def cutOk (lo hi : Int) (n : Nat) : Bool := decide (0 ≤ lo) && (decide (lo ≤ hi) && decide (hi ≤ n))
def cutL {α : Type} (xs : List α) (lo hi : Int) : List α := (xs.take hi.toNat).drop lo.toNat
def band (k : IntKind) (x y : Int) : Int := k.wrap (BitVec.ofInt k.bits x &&& BitVec.ofInt k.bits y).toNat
def bor (k : IntKind) (x y : Int) : Int := k.wrap (BitVec.ofInt k.bits x ||| BitVec.ofInt k.bits y).toNat
def bxor (k : IntKind) (x y : Int) : Int := k.wrap (BitVec.ofInt k.bits x ^^^ BitVec.ofInt k.bits y).toNat
def shlI (k : IntKind) (x y : Int) : Int := k.wrap (x * 2 ^ min y.toNat k.bits)
def shrI (k : IntKind) (x y : Int) : Int := x.fdiv (2 ^ min y.toNat k.bits)
def imin (x y : Int) : Int := if y < x then y else x
def imax (x y : Int) : Int := if y > x then y else x
def repL {α : Type} (xs : List α) (n : Int) : List α := (List.replicate n.toNat xs).flatten
def repOk {α : Type} (xs : List α) (n : Int) : Bool := decide (0 ≤ n) && (decide (n ≤ lim) && decide (xs.length * n.toNat ≤ lim))
def eqL {α : Type} (f : α → α → Bool) : List α → List α → Bool
 | [], [] => true
 | a :: x, b :: y => f a b && eqL f x y
 | _, _ => false
def chunkS (bs : List UInt8) (k : Nat) : List UInt8 := (bs.drop (32 * k)).take 32
def chunkL (bs : List UInt8) : List (List UInt8) := (List.range ((bs.length + 31) / 32)).map (chunkS bs)
def alt {α β γ : Type} (s : α ⊕ β) (f : α → Option γ) (g : β → Option γ) : Option γ := bif s.isLeft then s.getLeft?.bind f else s.getRight?.bind g
theorem alt_inl {α β γ : Type} (a : α) (f : α → Option γ) (g : β → Option γ) : alt (.inl a) f g = f a := rfl
theorem alt_inr {α β γ : Type} (b : β) (f : α → Option γ) (g : β → Option γ) : alt (.inr b) f g = g b := rfl
noncomputable def iter {V X : Type} (step : V → Option (V ⊕ X)) (n : Nat) : V → Option X :=
 Nat.rec (fun _ => none) (fun _ ih v => (step v).bind fun s => alt s ih some) n
noncomputable def fuel : Nat := Classical.choose (show ∃ n : Nat, n = 4294967296 from ⟨_, rfl⟩)
theorem fuel_eq : fuel = 4294967296 := Classical.choose_spec (show ∃ n : Nat, n = 4294967296 from ⟨_, rfl⟩)
theorem iter_succ {V X : Type} (step : V → Option (V ⊕ X)) (n : Nat) (v : V) : iter step (n + 1) v = (step v).bind fun s => alt s (iter step n) some := rfl
structure TPut where
 At : Int
 B : List UInt8
def TPut.eqb (x y : TPut) : Bool := ((x.At == y.At) && ((x.B == y.B) && true))
structure TDisk where
 Last : List (List UInt8)
 Wait : List TPut
 Arm : Int
 Down : Bool
def TDisk.eqb (x y : TDisk) : Bool := (false && (false && ((x.Arm == y.Arm) && ((x.Down == y.Down) && true))))
structure TFile where
 Name : List UInt8
 Ver : Int
 Body : List UInt8
def TFile.eqb (x y : TFile) : Bool := ((x.Name == y.Name) && ((x.Ver == y.Ver) && ((x.Body == y.Body) && true)))
structure TMark where
 Seq : Int
 Err : Int
 File : Int
 Ver : Int
def TMark.eqb (x y : TMark) : Bool := ((x.Seq == y.Seq) && ((x.Err == y.Err) && ((x.File == y.File) && ((x.Ver == y.Ver) && true))))
structure TState where
 Files : List TFile
 Marks : List TMark
 Epoch : Int
def TState.eqb (x y : TState) : Bool := (false && (false && ((x.Epoch == y.Epoch) && true)))
structure TStore where
 D : TDisk
 S : TState
def TStore.eqb (x y : TStore) : Bool := (TDisk.eqb x.D y.D && (TState.eqb x.S y.S && true))
structure TLease where
 Client : Int
 File : Int
 Mode : Int
 Until : Int
def TLease.eqb (x y : TLease) : Bool := ((x.Client == y.Client) && ((x.File == y.File) && ((x.Mode == y.Mode) && ((x.Until == y.Until) && true))))
structure TWait where
 Client : Int
 Seq : Int
 File : Int
 Mode : Int
def TWait.eqb (x y : TWait) : Bool := ((x.Client == y.Client) && ((x.Seq == y.Seq) && ((x.File == y.File) && ((x.Mode == y.Mode) && true))))
structure TDesk where
 Leases : List TLease
 Line : List TWait
def TDesk.eqb (x y : TDesk) : Bool := (false && (false && true))
structure TTell where
 Kind : Int
 To : Int
 Epoch : Int
 Seq : Int
 Err : Int
 File : Int
 Mode : Int
 Ver : Int
 Body : List UInt8
def TTell.eqb (x y : TTell) : Bool := ((x.Kind == y.Kind) && ((x.To == y.To) && ((x.Epoch == y.Epoch) && ((x.Seq == y.Seq) && ((x.Err == y.Err) && ((x.File == y.File) && ((x.Mode == y.Mode) && ((x.Ver == y.Ver) && ((x.Body == y.Body) && true)))))))))
structure TServer where
 Store : TStore
 Desk : TDesk
 Seen : List Int
 Told : List TTell
 Now : Int
 Hush : Int
 Bad : Int
 Live : Bool
 Recalled : Int
def TServer.eqb (x y : TServer) : Bool := (TStore.eqb x.Store y.Store && (TDesk.eqb x.Desk y.Desk && (false && (false && ((x.Now == y.Now) && ((x.Hush == y.Hush) && ((x.Bad == y.Bad) && ((x.Live == y.Live) && ((x.Recalled == y.Recalled) && true)))))))))
structure TWrite where
 Off : Int
 B : List UInt8
def TWrite.eqb (x y : TWrite) : Bool := ((x.Off == y.Off) && ((x.B == y.B) && true))
structure TCache where
 Mode : Int
 Until : Int
 Ver : Int
 Body : List UInt8
 Dirty : List TWrite
 Sent : Int
 Called : Bool
 Lost : Bool
def TCache.eqb (x y : TCache) : Bool := ((x.Mode == y.Mode) && ((x.Until == y.Until) && ((x.Ver == y.Ver) && ((x.Body == y.Body) && (false && ((x.Sent == y.Sent) && ((x.Called == y.Called) && ((x.Lost == y.Lost) && true))))))))
structure TAsk where
 Kind : Int
 From : Int
 Epoch : Int
 Seq : Int
 Name : List UInt8
 File : Int
 Mode : Int
 Writes : List TWrite
def TAsk.eqb (x y : TAsk) : Bool := ((x.Kind == y.Kind) && ((x.From == y.From) && ((x.Epoch == y.Epoch) && ((x.Seq == y.Seq) && ((x.Name == y.Name) && ((x.File == y.File) && ((x.Mode == y.Mode) && (false && true))))))))
structure TOut where
 Is : Bool
 Ask : TAsk
 First : Int
 Last : Int
def TOut.eqb (x y : TOut) : Bool := ((x.Is == y.Is) && (TAsk.eqb x.Ask y.Ask && ((x.First == y.First) && ((x.Last == y.Last) && true))))
structure TClient where
 ID : Int
 Now : Int
 Epoch : Int
 Seq : Int
 Files : List TCache
 Names : List (List UInt8)
 Out : TOut
 Bad : Int
 Hits : Int
 Asks : Int
def TClient.eqb (x y : TClient) : Bool := ((x.ID == y.ID) && ((x.Now == y.Now) && ((x.Epoch == y.Epoch) && ((x.Seq == y.Seq) && (false && (false && (TOut.eqb x.Out y.Out && ((x.Bad == y.Bad) && ((x.Hits == y.Hits) && ((x.Asks == y.Asks) && true))))))))))
structure TGram where
 To : Int
 B : List UInt8
 Turned : Bool
def TGram.eqb (x y : TGram) : Bool := ((x.To == y.To) && ((x.B == y.B) && ((x.Turned == y.Turned) && true)))
structure TWorld where
 Real : Int
 S : TServer
 Clients : List TClient
 Fly : List TGram
def TWorld.eqb (x y : TWorld) : Bool := ((x.Real == y.Real) && (TServer.eqb x.S y.S && (false && (false && true))))
structure TAns where
 Err : Int
 File : Int
 Body : List UInt8
def TAns.eqb (x y : TAns) : Bool := ((x.Err == y.Err) && ((x.File == y.File) && ((x.Body == y.Body) && true)))
structure TStep where
 Kind : Int
 R : Int
 By : Int
 File : Int
 Off : Int
 I : Int
 To : Int
 Text : List UInt8
 Gains : List Int
def TStep.eqb (x y : TStep) : Bool := ((x.Kind == y.Kind) && ((x.R == y.R) && ((x.By == y.By) && ((x.File == y.File) && ((x.Off == y.Off) && ((x.I == y.I) && ((x.To == y.To) && ((x.Text == y.Text) && (false && true)))))))))
structure Ttenancymade_Picks where
 l : List UInt8
 n : Int
def Ttenancymade_Picks.eqb (x y : Ttenancymade_Picks) : Bool := (false && ((x.n == y.n) && true))
structure Tworld_refused where
 e : Int
def Tworld_refused.eqb (x y : Tworld_refused) : Bool := ((x.e == y.e) && true)
structure Tworld_host where
 World : TWorld
 a : TAns
def Tworld_host.eqb (x y : Tworld_host) : Bool := (TWorld.eqb x.World y.World && (TAns.eqb x.a y.a && true))
structure Ttruth_held where
 client : Int
 file : Int
 mode : Int
 c : TCache
def Ttruth_held.eqb (x y : Ttruth_held) : Bool := ((x.client == y.client) && ((x.file == y.file) && ((x.mode == y.mode) && (TCache.eqb x.c y.c && true))))
structure Ttenancyref13_Reader where
 B : List UInt8
 Bad : Bool
def Ttenancyref13_Reader.eqb (x y : Ttenancyref13_Reader) : Bool := (false && ((x.Bad == y.Bad) && true))
structure Tops_reader where
 b : List UInt8
def Tops_reader.eqb (x y : Tops_reader) : Bool := (false && true)
structure TNil0 where
def TNil0.eqb (x y : TNil0) : Bool := true
structure Tserver_host where
 Server : TServer
 told : List TTell
def Tserver_host.eqb (x y : Tserver_host) : Bool := (TServer.eqb x.Server y.Server && (false && true))
structure Tclient_work where
 Client : TClient
 asked : List TAsk
def Tclient_work.eqb (x y : Tclient_work) : Bool := (TClient.eqb x.Client y.Client && (false && true))
structure Tdisk_lasting where
 d : TDisk
def Tdisk_lasting.eqb (x y : Tdisk_lasting) : Bool := (TDisk.eqb x.d y.d && true)
structure Tclient_told where
 a : TAns
def Tclient_told.eqb (x y : Tclient_told) : Bool := (TAns.eqb x.a y.a && true)
structure Tmsg_reader where
 b : List UInt8
def Tmsg_reader.eqb (x y : Tmsg_reader) : Bool := (false && true)
structure Tjrnl_writer where
 d : TDisk
def Tjrnl_writer.eqb (x y : Tjrnl_writer) : Bool := (TDisk.eqb x.d y.d && true)
structure Timage_reader where
 b : List UInt8
def Timage_reader.eqb (x y : Timage_reader) : Bool := (false && true)
structure Tstate_refused where
 e : Int
def Tstate_refused.eqb (x y : Tstate_refused) : Bool := ((x.e == y.e) && true)
structure Tutf8_acceptRange where
 lo : UInt8
 hi : UInt8
def Tutf8_acceptRange.eqb (x y : Tutf8_acceptRange) : Bool := ((i8 x.lo == i8 y.lo) && ((i8 x.hi == i8 y.hi) && true))
open Go
end Go.Proofs.YthabbcjjecpbmaaGreat.N

namespace Go.Proofs.YthabbcjjecpbmaaGreat.D
open Go
inductive TT (α : Type) where
 | ret (x : α)
 | ite (c : Bool) (t e : TT α)
def TT.val {α : Type} : TT α → α
 | .ret x => x
 | .ite c t e => bif c then t.val else e.val
def TT.tree {α : Type} : TT α → Tree α
 | .ret x => .ret x
 | .ite c t e => .ite c t.tree e.tree
theorem TT.get_bind {α β : Type} (f : α → Tree β) : ∀ t : TT α, (t.tree.bind f).get = (f t.val).get
 | .ret x => rfl
 | .ite c t e => by
  show (bif c then (t.tree.bind f).get else (e.tree.bind f).get) = (f (bif c then t.val else e.val)).get
  cases c
  ·exact TT.get_bind f e
  ·exact TT.get_bind f t
def altT {α β : Type} {X : Type} (s : α ⊕ β) (f : α → Tree X) (g : β → Tree X) : Tree X := .ite s.isLeft (.opt s.getLeft? f) (.opt s.getRight? g)
end Go.Proofs.YthabbcjjecpbmaaGreat.D
namespace Go.Proofs.YthabbcjjecpbmaaGreat.N
open Go.Proofs.YthabbcjjecpbmaaGreat.D
theorem get_ret {α : Type} (a : α) : (Tree.ret a).get = some a := rfl
theorem get_fail {α : Type} : (Tree.fail : Tree α).get = none := rfl
theorem get_ite {α : Type} (c : Bool) (t e : Tree α) : (Tree.ite c t e).get = bif c then t.get else e.get := rfl
theorem get_opt {α β : Type} (o : Option β) (f : β → Tree α) : (Tree.opt o f).get = o.bind fun b => (f b).get := rfl
theorem get_altT {α β X : Type} (s : α ⊕ β) (f : α → Tree X) (g : β → Tree X) : (altT s f g).get = alt s (fun a => (f a).get) (fun b => (g b).get) := rfl
theorem val_ret {α : Type} (a : α) : (TT.ret a).val = a := rfl
theorem val_ite {α : Type} (c : Bool) (t e : TT α) : (TT.ite c t e).val = bif c then t.val else e.val := rfl
end Go.Proofs.YthabbcjjecpbmaaGreat.N
