/- Functions of the library by contracts that are given: strings.Repeat. A body whose last part ranges over the chunks of a row of bytes. strings.Join, by its contract. What stands in a disk's sector, in plain words. -/
import Derived.Test.YtinbnobanikfmaaGreatDoorBase5
import Derived.Below
import Derived.Lib.Repeat
import Derived.RangeFuncLeaves
import Derived.RangeFuncBox
import Derived.Lib.Join
set_option linter.unusedVariables false
set_option linter.unusedSimpArgs false
namespace Go.Proofs.YtinbnobanikfmaaGreatDoor.D
open Go Go.RowKit
section
variable {P : Program} {E : Env} {w w' : World} {σ : Sg} {st : St E.T} {M : Nat → Prop}
theorem below_mf (hst : StRep E σ st w) (h : Below w.heap.size w w') : Mf σ σ st st w w' := (Mv.still hst h.os h.tape h.output h.size h.block).f
theorem str_val {s : List UInt8} (h : s.length ≤ lim) : VRep E σ st w M (.val .str s) (.string ⟨s.toArray⟩) := by
  have h1 : CRep E w M .str (ByteArray.mk s.toArray).data.toList [.string ⟨s.toArray⟩] := CRep.str _ (by simpa [ByteArray.size] using h)
  exact .data .str _ _ (.val .str _ _ h1)
def repS (E : Env) : List (DVal E.T) → Tree (Res E.T)
  | [.val .str s, .val (.int .i64) n] => .ite (N.repOk (α := UInt8) s n) (.ret (.ret [.val .str (N.repL (α := UInt8) s n)])) .fail
  | _ => .fail
theorem repeatL_eq (l : List UInt8) : ∀ c, Lib.repeatL l c = (List.replicate c l).flatten
  | 0 => rfl
  | c + 1 => by rw [Lib.repeatL, List.replicate_succ, List.flatten_cons, repeatL_eq l c]
theorem rep_ok {f : FuncId} (hen : Enters P f)
    (hc : ∀ (s : ByteArray) (c : Nat) (w : World), c ≤ 9223372036854775807 → s.size * c ≤ 140737488355328 → Calls P f #[.string s, .int .i64 c] w fun e w' => e = .returned (.string ⟨(Lib.repeatL s.data.toList c).toArray⟩) ∧ Below w.heap.size w w') :
    SpecOk P E f (.pure [.str, .int .i64] (repS E)) := by
  refine ⟨hen, fun {σ w ds us r} hst hds hr => ?_⟩
  unfold repS at hr
  split at hr
  · rename_i s n
    simp only [Tree.get] at hr
    cases hk : N.repOk (α := UInt8) s n with
    | false => rw [hk] at hr; cases hr
    | true =>
      rw [hk] at hr
      cases hr
      cases hds with
      | cons v r u us h1 h2 =>
        cases h2 with
        | cons v r u2 us h2 h3 =>
          cases h3
          obtain ⟨b, rfl, hb, _⟩ := strRep h1
          have := intRep h2; subst this
          unfold N.repOk at hk
          simp only [Bool.and_eq_true, decide_eq_true_eq] at hk
          obtain ⟨k1, k2, k3⟩ := hk
          obtain ⟨c, hn⟩ : ∃ c : Nat, n = ((c : Nat) : Int) := ⟨Int.toNat n, (Int.toNat_of_nonneg k1).symm⟩
          subst hn
          rw [Int.toNat_natCast] at k3
          have hsz : b.size = s.length := by rw [← hb]; exact Array.length_toList.symm
          have k2' : c ≤ 2147483648 := Int.ofNat_le.1 k2
          have k3' : s.length * c ≤ 2147483648 := k3
          have hcall := hc b c w (by omega) (by rw [hsz]; omega)
          refine hcall.mono fun e w' ⟨he, hbel⟩ => ⟨σ, below_mf hst hbel, ?_⟩
          rw [he, hb, repeatL_eq]
          have hl : (List.replicate c s).flatten.length ≤ lim := by
            rw [List.length_flatten, List.map_replicate, List.sum_replicate_nat, Nat.mul_comm]
            exact k3'
          exact str_val hl
  · cases hr
end
end Go.Proofs.YtinbnobanikfmaaGreatDoor.D

set_option linter.unusedVariables false
set_option linter.unusedSimpArgs false
namespace Go.Proofs.YtinbnobanikfmaaGreatDoor.D
open Go Go.RowKit
def seqDrop : Nat → Code → Code
  | 0, c => c
  | n + 1, .seq _ b => seqDrop n b
  | _ + 1, _ => .skip
def seqTake : Nat → Code → Code
  | 0, _ => .skip
  | n + 1, .seq a b => .seq a (seqTake n b)
  | _ + 1, c => c
def seqOk : Nat → Code → Bool
  | 0, _ => true
  | n + 1, .seq _ b => seqOk n b
  | _ + 1, _ => false
open Go.Proofs.YtinbnobanikfmaaGreatDoor.N (chunkS chunkL)
def KpS (ks : List Nat) (W W' : World) : Prop := W.heap.size ≤ W'.heap.size ∧ ∀ b ∈ ks, W'.heap[b]? = W.heap[b]?
theorem KpS.cell {ks : List Nat} {W W' : World} (h : KpS ks W W') {p : Addr} (hp : p.block ∈ ks) : W'.cell? p = W.cell? p := World.cell?_of_block (h.2 _ hp)
theorem KpS.refl (ks : List Nat) (W : World) : KpS ks W W := ⟨Nat.le_refl _, fun _ _ => rfl⟩
theorem KpS.trans {ks : List Nat} {A B C : World} (h : KpS ks A B) (k : KpS ks B C) : KpS ks A C := ⟨Nat.le_trans h.1 k.1, fun b hb => (k.2 b hb).trans (h.2 b hb)⟩
theorem KpS.two {W W' : World} {a b : Nat} (h : W.heap.size ≤ W'.heap.size) (h1 : W'.heap[a]? = W.heap[a]?) (h2 : W'.heap[b]? = W.heap[b]?) : KpS [a, b] W W' :=
  ⟨h, fun k hk => by
    rcases List.mem_cons.1 hk with rfl | hk
    · exact h1
    · rw [List.mem_singleton.1 hk]; exact h2⟩
theorem KpS.putObj {ks : List Nat} {W : World} {l B : Nat} {o o' : Go.Obj} (hl : B ≤ l) (h : W.heap[l]? = some o) (hks : ∀ k ∈ ks, k < B) : KpS ks W (W.putObj l o') :=
  ⟨by simp, fun b hb => World.putObj_heap_other (by have := hks b hb; omega)⟩
theorem region_end {F : Fence} {n : Nat} {P : Program} {c : Code} {Q : Exit → Act → World → Prop} {a : Act} {w : World} (a' : Act) (w' : World) (hk : Q .normal a' w') (h : ∀ Q' : Exit → Act → World → Prop, Q' .normal a' w' → c.wpIn F n P Q' a w) : c.wpIn F n P Q a w := h Q hk
def chunkV (b len k : Nat) : Value := .slice (some ⟨b, 32 * k, none⟩) (min 32 (len - 32 * k)) (min 32 (len - 32 * k))
def bodyOf (fn : Func) : Code :=
  match fn.body with
  | some c => c
  | none => .skip
theorem list_eq (l : List Value) {n : Nat} (h : l.length = n) : l = (List.range n).map fun i => l.getD i undef := by
  subst h
  apply List.ext_getElem
  · simp
  · intro i h1 h2
    simp [List.getD_eq_getElem?_getD, List.getElem?_eq_getElem h1]
section
variable {P : Program} {E : Env} {w w' : World} {σ σ' : Sg} {st st' : St E.T} {M : Nat → Prop}
variable {a : Act} {fr : Fr E.T}
def Exit.orElse (K : Act → World → Prop) (Q : Exit → Act → World → Prop) : Exit → Act → World → Prop
  | .normal, a, w => K a w
  | e, a, w => Q e a w
theorem dtake_ok (HS : Sound P E) (hmix : P.follows .mixedOrders = true) {S : FuncId → Option (Spec E)} (HC : CallOk P E S) {L : Nat → LoopInfo E} {N : Nat} : ∀ (m : Nat) (c : Code) (i : Nat) {fr : Fr E.T} {st : St E.T} {a : Act} {w : World} {σ : Sg} {out : CodeOut E} {Q : Exit → Act → World → Prop}, seqOk m c = true → LoopsOk S L N i c →
    StRep E σ st w → FrRep E σ st w fr a → (dcode E S L N i (seqTake m c) fr st).get = some out → PostC E σ st w (Exit.orElse (fun a w => (seqDrop m c).wp P Q a w) Q) out → c.wp P Q a w
  | 0, c, i, fr, st, a, w, σ, out, Q, hs, hL, hst, hfr, h, hp => by
    cases h
    exact hp σ w a _ (Mf.refl hst) hfr .normal
  | m + 1, .seq c1 c2, i, fr, st, a, w, σ, out, Q, hs, hL, hst, hfr, h, hp => by
    simp only [seqTake, dcode] at h
    obtain ⟨⟨e, fr1, st1⟩, h1, h2⟩ := Tree.get_bind_some h
    refine wp_seq (dcode_ok HS hmix HC c1 i hL.1 hst hfr h1 (fun σ' w' a' x m' hfr' hx => ?_))
    cases hx with
    | normal => exact dtake_ok HS hmix HC m c2 (i + nLoops c1) hs hL.2 m'.rep hfr' h2 (hp.later m')
    | exit id => cases h2; exact hp σ' w' a' _ m' hfr' (.exit id)
    | ret => cases h2; exact hp σ' w' a' _ m' hfr' .ret
    | panic v u hv => cases h2; exact hp σ' w' a' _ m' hfr' (.panic v u hv)
  | m + 1, .skip, i, fr, st, a, w, σ, out, Q, hs, hL, hst, hfr, h, hp => by cases hs
  | m + 1, .region .., i, fr, st, a, w, σ, out, Q, hs, hL, hst, hfr, h, hp => by cases hs
  | m + 1, .cond .., i, fr, st, a, w, σ, out, Q, hs, hL, hst, hfr, h, hp => by cases hs
  | m + 1, .block .., i, fr, st, a, w, σ, out, Q, hs, hL, hst, hfr, h, hp => by cases hs
  | m + 1, .loop .., i, fr, st, a, w, σ, out, Q, hs, hL, hst, hfr, h, hp => by cases hs
  | m + 1, .exit .., i, fr, st, a, w, σ, out, Q, hs, hL, hst, hfr, h, hp => by cases hs
  | m + 1, .ret, i, fr, st, a, w, σ, out, Q, hs, hL, hst, hfr, h, hp => by cases hs
  | m + 1, .scope .., i, fr, st, a, w, σ, out, Q, hs, hL, hst, hfr, h, hp => by cases hs
  | m + 1, .label .., i, fr, st, a, w, σ, out, Q, hs, hL, hst, hfr, h, hp => by cases hs
  | m + 1, .goto .., i, fr, st, a, w, σ, out, Q, hs, hL, hst, hfr, h, hp => by cases hs
  | m + 1, .rangeFunc .., i, fr, st, a, w, σ, out, Q, hs, hL, hst, hfr, h, hp => by cases hs
  | m + 1, .refuse .., i, fr, st, a, w, σ, out, Q, hs, hL, hst, hfr, h, hp => by cases hs
def TailPut (P : Program) (fn : Func) (c : Code) (q : Nat) (ts : TypeId) : Prop :=
  ∀ (a : Act) (w : World) (o : Option Addr) (b len cap : Nat) (bs : List UInt8), a.defers = [] → a.tmps.size = fn.ntmps → a.tmps[q]? = some (.slice o len cap) → bs.length = len → len ≤ 2147483648 → len ≤ cap → (0 < len → o = some ⟨b, 0, none⟩) → (0 < len → b < w.heap.size) →
    (∀ (j : Nat) x, bs[j]? = some x → w.cell? ⟨b, j, none⟩ = some (.int .u8 (x.toNat : Int))) →
    ∀ R : Ending → World → Prop, (∀ v W', W'.ownsRow w.heap.size ts 1 v ((len + 31) / 32) ((List.range ((len + 31) / 32)).map fun k => Value.string ⟨(chunkS bs k).toArray⟩) → Below w.heap.size w W' → R (.returned v) W') → c.wpIn .wide 3 P (bodyPostM .wide 3 P fn R) a w
def ownIn (q : Nat) (fr : Fr E.T) (st : St E.T) : Tree (List UInt8) :=
  match nth fr.s q .undef with
  | .own k => match nth? st k with
    | some (.arr _ e xs) => match tyEq e (.int .u8) with
      | some h => .ret (castI (T := E.T) (congrArg Ty.slice h.down) xs)
      | none => .fail
    | _ => .fail
  | _ => .fail
theorem ownIn_get {q : Nat} {bs : List UInt8} (h : (ownIn (E := E) q fr st).get = some bs) : ∃ k l, nth fr.s q .undef = .own k ∧ nth? st k = some (.arr l (.int .u8) bs) := by
  unfold ownIn at h
  split at h
  · rename_i k hk
    split at h
    · rename_i l e xs hx
      split at h
      · rename_i he _
        cases he.down
        cases h
        exact ⟨k, l, hk, hx⟩
      · cases h
    · cases h
  · cases h
def dbodyR (E : Env) (S : FuncId → Option (Spec E)) (L : Nat → LoopInfo E) (N m q : Nat) (fn : Func) (args : List (DVal E.T)) (st : St E.T) : Tree (Res E.T × St E.T) :=
  match st, fn.body with
  | [], some c => (dcode E S L N 0 (seqTake m c) (frame E fn args) []).bind fun p => match p.1, p.2.1.d with
    | .normal, [] => Tree.need (Nat.beq p.2.1.s.length fn.ntmps) ((ownIn q p.2.1 p.2.2).bind fun bs => .ret (.ret [.val (.slice .str) (chunkL bs)], []))
    | .ret, [] => ending E false 0 fn p.2.1 p.2.2 none
    | _, _ => .fail
  | _, _ => .fail
theorem bytes_cells {xs : List UInt8} {cs : List Value} (h : LRep E w M (.int .u8) xs cs) : ∀ (j : Nat) x, xs[j]? = some x → cs[j]? = some (.int .u8 (x.toNat : Int)) := by
  induction xs generalizing cs with
  | nil => intro j x hx; cases hx
  | cons y r ih =>
    cases h with
    | cons e x r c1 c2 h h' =>
      cases h
      intro j x hx
      cases j with
      | zero => cases hx; rfl
      | succ j => exact ih h' j x hx
theorem strs_rep : ∀ (l : List (List UInt8)), (∀ s ∈ l, s.length ≤ lim) → LRep E w M .str l (l.map fun s => Value.string ⟨s.toArray⟩)
  | [], _ => .nil _
  | s :: r, h => by
    have h1 : CRep E w M .str (ByteArray.mk s.toArray).data.toList [.string ⟨s.toArray⟩] := CRep.str _ (by simpa [ByteArray.size] using h s (by simp))
    have := LRep.cons (E := E) .str s r [Value.string ⟨s.toArray⟩] _ (by simpa using h1) (strs_rep r fun s hs => h s (by simp [hs]))
    simpa using this
theorem dbodyR_ok (HS : Sound P E) (hmix : P.follows .mixedOrders = true) {S : List (Nat × Spec E)} (hS : AllS P E S) {L : Nat → LoopInfo E} {N m q : Nat} {f : FuncId} {fn : Func} {c : Code} {ts : TypeId} (hf : P.funcs[f]? = some fn) (hb : fn.body = some c) (hs : seqOk m c = true)
    (h : ∀ k g, (L k).closed = some g → ∀ fr st out, (g fr st).get = some out → ∃ m fr', (loopT E (stepOf E S L N k fn) (L k).keep (L k).mvs st.length m fr st).get = some (out.1, fr', out.2.2) ∧ Weak out.2.1 fr')
    (ht : TailPut P fn (seqDrop m c) q ts) : FnOk P E f (dbodyR E (lookS S) L N m q fn) := by
  have hL : LoopsOk (lookS S) L N 0 c := loopsOk_of c 0 fun k cb hk f' hf' => by
    rw [Nat.zero_add] at hf' ⊢
    have := h k f' hf'
    unfold stepOf at this
    rw [hb] at this
    simp only [hk] at this
    exact this
  intro σ st w ds us r st' hst hds hr
  unfold dbodyR at hr
  rw [hb] at hr
  cases st with
  | cons _ _ => cases hr
  | nil =>
  simp only at hr
  obtain ⟨⟨e, fr, st1⟩, h1, h2⟩ := Tree.get_bind_some hr
  refine callsIn_wide.1 (callsIn_of_wp_marks (n := 3) hf hb trivial (wpIn_wide.2 ?_) rfl)
  refine dtake_ok HS hmix (callOk HS (lookS_ok hS)) m c 0 hs hL hst (frame_ok hds) h1 (fun σ' w' a' x m' hfr hx => ?_)
  simp only at h2 hfr m'
  split at h2
  · rename_i hd
    cases hx
    obtain ⟨hn, h2⟩ := Tree.get_need h2
    obtain ⟨bs, hbs, h2⟩ := Tree.get_bind_some h2
    cases h2
    obtain ⟨k, l, hk, hkx⟩ := ownIn_get hbs
    have hdd := hfr.d
    rw [hd] at hdd
    have hdef : a'.defers = [] := by generalize a'.defers = dd at hdd; cases hdd; rfl
    have hsz : a'.tmps.size = fn.ntmps := by
      have := VReps.length hfr.s
      rw [Array.length_toList] at this
      rw [← this]; exact Nat.eq_of_beq_eq_true hn
    have hv := dget_ok hfr (.tmp q)
    simp only [dget] at hv
    rw [hk] at hv
    have hq : a'.eval (.tmp q) = σ' k := by
      generalize a'.eval (.tmp q) = uu at hv ⊢
      cases hv with
      | data t d cs hvt => cases hvt; rfl
    have hob := m'.rep.obj k _ hkx
    generalize hsk : σ' k = sk at hob hq
    cases hob with
    | arr l e xs v how =>
    obtain ⟨hll, hcase⟩ := how
    have hbl : ∀ b, MB σ' st1 b → b < w'.heap.size := fun b hb => MB_lt m'.rep hb
    have hrep0 : StRep E σ' (st1.take 0) w' := take_rep m'.rep (fun k hk => by simp [stRefs] at hk)
    have m0 : Mf σ σ' [] (st1.take ([] : St E.T).length) w w' := Mf.take m' hrep0
    have hst0 : (st1.take ([] : St E.T).length) = [] := rfl
    rw [hst0] at m0
    have hbs2 : bs.length ≤ 2147483648 := hll
    have hch : ∀ s ∈ chunkL bs, s.length ≤ lim := by
      intro s hs
      obtain ⟨k, _, rfl⟩ := List.mem_map.1 hs
      unfold chunkS lim
      rw [List.length_take]
      omega
    have hfin : ∀ (v : Value) (W' : World), W'.ownsRow w'.heap.size ts 1 v ((bs.length + 31) / 32) ((List.range ((bs.length + 31) / 32)).map fun k => Value.string ⟨(chunkS bs k).toArray⟩) → Below w'.heap.size w' W' → Back E σ [] [] w (.ret [.val (.slice .str) (chunkL bs)]) (.returned v) W' := by
      intro v W' hrow hbel
      refine ⟨σ', m0.trans (below_mf m0.rep hbel), ?_⟩
      show VRep E σ' [] W' (MB σ' ([] : St E.T)) (.val (.slice .str) (chunkL bs)) v
      have hlr : LRep E W' (MB σ' ([] : St E.T)) .str (chunkL bs) ((List.range ((bs.length + 31) / 32)).map fun k => Value.string ⟨(chunkS bs k).toArray⟩) := by
        have := strs_rep (E := E) (w := W') (M := MB σ' ([] : St E.T)) (chunkL bs) hch
        unfold chunkL at this ⊢
        rw [List.map_map] at this
        exact this
      have hlen : (chunkL bs).length = (bs.length + 31) / 32 := by simp [chunkL]
      obtain ⟨hl1, hor⟩ := hrow
      rcases hor with ⟨rfl, h0⟩ | ⟨g, cap, cur, rfl, hg, hh, hc1, hc2, hc3, hc4⟩
      · have hnil : chunkL bs = [] := List.eq_nil_of_length_eq_zero (by rw [hlen]; exact h0)
        have := CRep.slice (E := E) (w := W') (M := MB σ' ([] : St E.T)) .str [] none 0 [] (.nil _) (.inl rfl) (Nat.zero_le _) (Nat.le_refl _)
        rw [hnil]
        exact .data _ _ _ (.val _ _ _ this)
      · have := CRep.slice (E := E) (w := W') (M := MB σ' ([] : St E.T)) .str (chunkL bs) (some ⟨g, 0, none⟩) cap _ hlr (.inr ⟨g, 0, rfl, ?_, (Array.getElem?_eq_some_iff.1 hh).1, ?_⟩) (by rw [hlen]; unfold lim; omega) (by rw [hlen]; exact hc1)
        · rw [hlen] at this
          exact .data _ _ _ (.val _ _ _ this)
        · intro hb
          have : g < w'.heap.size := by
            rcases hb with hb | ⟨o, ob, ho, _⟩
            · exact m0.rep.amb g hb
            · cases ho
          omega
        · intro j u hj
          rw [Nat.zero_add]
          have hj2 : (cur.toList.take ((bs.length + 31) / 32 * 1))[j]? = some u := by rw [hc4]; exact hj
          unfold World.cell?
          rw [hh]
          have hlt := (List.getElem?_eq_some_iff.1 hj2).1
          rw [List.getElem?_take_of_lt (by rw [List.length_take] at hlt; omega)] at hj2
          simpa using hj2
    have hget : ∀ u, a'.eval (.tmp q) = u → u ≠ undef → a'.tmps[q]? = some u := by
      intro u hu hne
      simp only [Act.eval, Array.getD_eq_getD_getElem?] at hu
      cases hc : a'.tmps[q]? with
      | none => rw [hc] at hu; exact absurd hu.symm hne
      | some x => rw [hc] at hu; rw [← hu]; rfl
    show (seqDrop m c).wp P (bodyPostM .wide 3 P fn (Back E σ [] [] w (.ret [.val (.slice .str) (chunkL bs)]))) a' w'
    refine (wpIn_wide (n := 3)).1 ?_
    rcases hcase with ⟨⟨ad, rfl⟩, rfl⟩ | ⟨g, cap, cur, el, fz, cs, rfl, hc1, hh, hz, hfz, hl, hcs⟩
    · exact ht a' w' ad 0 0 0 [] hdef hsz (hget _ hq (by intro h; cases h)) rfl (by omega) (Nat.le_refl _) (fun h => by omega) (fun h => by omega) (fun j x hx => by cases hx) _ hfin
    · refine ht a' w' (some ⟨g, 0, none⟩) g bs.length (cap + 1) bs hdef hsz (hget _ hq (by intro h; cases h)) rfl hbs2 hc1 (fun _ => rfl) (fun _ => (Array.getElem?_eq_some_iff.1 hh).1) (fun j x hx => ?_) _ hfin
      have := hcs j _ (bytes_cells hl j x hx)
      unfold World.cell?
      rw [hh]
      simpa using this
  · rename_i hd
    cases hx
    have hdd := hfr.d
    rw [hd] at hdd
    have hdef : a'.defers = [] := by generalize a'.defers = dd at hdd; cases hdd; rfl
    have hend := ending_ok HS (keep := false) (fn := fn) m' hfr .none (r := r) (st' := st') h2
    show LeavesInM .wide 3 P fn a'.tmps _ a'.defers .returning w'
    rw [hdef]
    exact hend
  · cases h2
end
end Go.Proofs.YtinbnobanikfmaaGreatDoor.D

set_option linter.unusedVariables false
set_option linter.unusedSimpArgs false
namespace Go.Proofs.YtinbnobanikfmaaGreatDoor.D
open Go Go.RowKit
section
variable {P : Program} {E : Env} {w w' : World} {σ : Sg} {st : St E.T} {M : Nat → Prop}
def joinS (E : Env) : List (DVal E.T) → Tree (Res E.T)
  | [.val (.slice .str) l, .val .str e] => .ite (N.joinOk l e) (.ret (.ret [.val .str (N.joinL l e)])) .fail
  | _ => .fail
theorem strs_cells {l : List (List UInt8)} {cs : List Value} (h : LRep E w M .str l cs) : ∃ xs : List ByteArray, xs.map (fun b => b.data.toList) = l ∧ cs = xs.map Value.string ∧ ∀ b ∈ xs, b.size ≤ lim := by
  induction l generalizing cs with
  | nil => cases h; exact ⟨[], rfl, rfl, fun b hb => by cases hb⟩
  | cons y r ih =>
    cases h with
    | cons e x r c1 c2 h h' =>
      cases h with
      | str s hs =>
        obtain ⟨xs, h1, h2, h3⟩ := ih h'
        exact ⟨s :: xs, by simp [h1], by simp [h2], fun b hb => (List.mem_cons.1 hb).elim (fun e => by rw [e]; exact hs) (h3 b)⟩
theorem join_ok {f : FuncId} (hen : Enters P f)
    (h0 : ∀ (a : Option Addr) (c : Nat) (sep : ByteArray) (w : World), Calls P f #[.slice a 0 c, .string sep] w fun e w' => e = .returned (.string ⟨#[]⟩) ∧ w' = w)
    (h1 : ∀ (bk o c : Nat) (x sep : ByteArray) (w : World), w.cell? ⟨bk, o, none⟩ = some (.string x) → Calls P f #[.slice (some ⟨bk, o, none⟩) 1 c, .string sep] w fun e w' => e = .returned (.string x) ∧ w' = w)
    (h2 : ∀ (bk o c : Nat) (xs : List ByteArray) (sep : ByteArray) (w : World), (∀ (j : Nat) x, xs[j]? = some x → w.cell? ⟨bk, o + j, none⟩ = some (.string x)) → bk < w.heap.size → 2 ≤ xs.length → xs.length ≤ 140737488355328 → xs.length ≤ c →
      (Lib.join (xs.map (·.data.toList)) sep.data.toList).length ≤ 140737488355328 →
      Calls P f #[.slice (some ⟨bk, o, none⟩) xs.length c, .string sep] w fun e w' => e = .returned (.string ⟨(Lib.join (xs.map (·.data.toList)) sep.data.toList).toArray⟩) ∧ Below w.heap.size w w') :
    SpecOk P E f (.pure [.slice .str, .str] (joinS E)) := by
  refine ⟨hen, fun {σ w ds us r} hst hds hr => ?_⟩
  unfold joinS at hr
  split at hr
  · rename_i l e
    simp only [Tree.get] at hr
    cases hk : N.joinOk l e with
    | false => rw [hk] at hr; cases hr
    | true =>
      rw [hk] at hr
      cases hr
      unfold N.joinOk at hk
      have hk := of_decide_eq_true hk
      cases hds with
      | cons v r u us hv h2' =>
        cases h2' with
        | cons v r u2 us he h3 =>
          cases h3
          obtain ⟨b, rfl, hb, _⟩ := strRep he
          cases hv with
          | data t d cs hvt =>
          cases hvt with
          | val t x cs hc =>
          cases hc with
          | slice e' xs a cap cs hl hm hn hcap =>
          obtain ⟨bs, hbs, hcs, _⟩ := strs_cells hl
          have hlen : l.length = bs.length := by rw [← hbs, List.length_map]
          show Calls P f #[.slice a l.length cap, .string b] w _
          have hst2 : ∀ s : List UInt8, s = N.joinL l e → ∀ (en : Ending) (w' : World), en = .returned (.string ⟨s.toArray⟩) → Below w.heap.size w w' → Back E σ [] [] w (.ret [.val .str (N.joinL l e)]) en w' := by
            intro s hs en w' he hbel
            subst hs
            exact ⟨σ, below_mf hst hbel, by rw [he]; exact str_val hk⟩
          match bs, hbs, hcs, hlen with
          | [], hbs, _, hlen =>
            have hnil : l = [] := by rw [← hbs]; rfl
            rw [hlen]
            refine (h0 a cap b w).mono fun en w' ⟨he, hw⟩ => hst2 [] (by rw [hnil]; rfl) en w' (by rw [he]) (by rw [hw]; exact Below.refl _ _)
          | [y], hbs, hcs, hlen =>
            have hl1 : l = [y.data.toList] := by rw [← hbs]; rfl
            rcases hm with h | ⟨bk, off, rfl, _, _, hcell⟩
            · rw [h] at hlen; cases hlen
            · rw [hlen]
              have hy : w.cell? ⟨bk, off, none⟩ = some (.string y) := by
                have := hcell 0 (.string y) (by rw [hcs]; rfl)
                simpa using this
              refine (h1 bk off cap y b w hy).mono fun en w' ⟨he, hw⟩ => hst2 y.data.toList (by rw [hl1]; simp [N.joinL, List.intercalate]) en w' (by rw [he]) (by rw [hw]; exact Below.refl _ _)
          | y :: z :: r, hbs, hcs, hlen =>
            rcases hm with h | ⟨bk, off, rfl, _, hlt, hcell⟩
            · rw [h] at hlen; simp at hlen
            · rw [hlen]
              have hj : N.joinL l e = Lib.join ((y :: z :: r).map (·.data.toList)) b.data.toList := by rw [hbs, hb]; rfl
              have hln : l.length ≤ 2147483648 := hn
              refine (h2 bk off cap (y :: z :: r) b w (fun j x hx => hcell j _ (by rw [hcs, List.getElem?_map, hx]; rfl)) hlt (by simp) (by omega) (by omega) (by rw [← hj]; unfold N.lim at hk; omega)).mono fun en w' ⟨he, hbel⟩ => hst2 _ hj.symm en w' he hbel
  · cases hr
end
end Go.Proofs.YtinbnobanikfmaaGreatDoor.D

namespace Go.Proofs.YtinbnobanikfmaaGreatDoor.N
open Go
def findW (l : List TPut) (i : Int) : Option TPut := l.reverse.find? fun p => p.At == i
def disk_Read (d : TDisk) (i : Int) : List UInt8 × Bool :=
  bif !d.Down && (decide (0 ≤ i) && decide (i < (d.Last.length : Int))) then
    (match findW d.Wait i with
    | some p => p.B
    | none => d.Last.getD i.toNat [], true)
  else ([], false)
theorem findW_some {l : List TPut} {i : Int} {m : Nat} {p : TPut} (h : l[m]? = some p) (hp : p.At = i) (hr : ∀ (j : Nat) q, m < j → l[j]? = some q → q.At ≠ i) : findW l i = some p := by
  unfold findW
  obtain ⟨hm, rfl⟩ := List.getElem?_eq_some_iff.1 h
  have hs : l = l.take m ++ l[m] :: l.drop (m + 1) := by rw [← List.drop_eq_getElem_cons hm, List.take_append_drop]
  generalize l[m] = p at hp hs
  generalize ha : l.take m = a at hs
  generalize hb : l.drop (m + 1) = b at hs
  have hrb : ∀ q ∈ b, q.At ≠ i := by
    intro q hq
    rw [← hb] at hq
    obtain ⟨j, hj, rfl⟩ := List.getElem_of_mem hq
    rw [List.getElem_drop]
    exact hr (m + 1 + j) _ (by omega) (List.getElem?_eq_getElem _)
  rw [hs, List.reverse_append, List.reverse_cons, List.find?_append, List.find?_append]
  have h1 : b.reverse.find? (fun p => p.At == i) = none := by
    rw [List.find?_eq_none]
    intro q hq
    simpa using hrb q (List.mem_reverse.1 hq)
  rw [h1]
  simp [hp]
theorem findW_none {l : List TPut} {i : Int} (h : ∀ q ∈ l, q.At ≠ i) : findW l i = none := by
  unfold findW
  rw [List.find?_eq_none]
  intro q hq
  simpa using h q (List.mem_reverse.1 hq)
end Go.Proofs.YtinbnobanikfmaaGreatDoor.N
