/- A body whose last part ranges over the chunks of a row of bytes. strings.Join, by its contract. What stands in a disk's sector, in plain words. -/
import Derived.Test.YtddhfdbfackahaaDoorBase5
import Derived.RangeFuncLeaves
import Derived.RangeFuncBox
import Derived.Lib.Join
set_option linter.unusedVariables false
set_option linter.unusedSimpArgs false
namespace Go.Proofs.YtddhfdbfackahaaDoor.D
open Go Go.RowKit
open Go.Proofs.YtddhfdbfackahaaDoor.N (chunkS chunkL)
def KpS (ks : List Nat) (W W' : World) : Prop := W.heap.size ≤ W'.heap.size ∧ ∀ b ∈ ks, W'.heap[b]? = W.heap[b]?
theorem KpS.cell {ks : List Nat} {W W' : World} (h : KpS ks W W') {p : Addr} (hp : p.block ∈ ks) : W'.cell? p = W.cell? p := World.cell?_of_block (h.2 _ hp)
theorem KpS.refl (ks : List Nat) (W : World) : KpS ks W W := ⟨Nat.le_refl _, fun _ _ => rfl⟩
theorem KpS.trans {ks : List Nat} {A B C : World} (h : KpS ks A B) (k : KpS ks B C) : KpS ks A C := ⟨Nat.le_trans h.1 k.1, fun b hb => (k.2 b hb).trans (h.2 b hb)⟩
theorem KpS.putObj {ks : List Nat} {W : World} {l B : Nat} {o o' : Go.Obj} (hl : B ≤ l) (h : W.heap[l]? = some o) (hks : ∀ k ∈ ks, k < B) : KpS ks W (W.putObj l o') :=
  ⟨by simp, fun b hb => World.putObj_heap_other (by have := hks b hb; omega)⟩
section
variable {P : Program} {E : Env} {w w' : World} {σ σ' : Sg} {st st' : St E.T} {M : Nat → Prop}
variable {a : Act} {fr : Fr E.T}
end
end Go.Proofs.YtddhfdbfackahaaDoor.D

set_option linter.unusedVariables false
set_option linter.unusedSimpArgs false
namespace Go.Proofs.YtddhfdbfackahaaDoor.D
open Go Go.RowKit
section
variable {P : Program} {E : Env} {w w' : World} {σ : Sg} {st : St E.T} {M : Nat → Prop}
theorem strs_cells {l : List (List UInt8)} {cs : List Value} (h : LRep E w M .str l cs) : ∃ xs : List ByteArray, xs.map (fun b => b.data.toList) = l ∧ cs = xs.map Value.string ∧ ∀ b ∈ xs, b.size ≤ lim := by
  induction l generalizing cs with
  | nil => cases h; exact ⟨[], rfl, rfl, fun b hb => by cases hb⟩
  | cons y r ih =>
    cases h with
    | cons e x r c1 c2 h h' =>
      cases h with
      | str s hs =>
        obtain ⟨xs, h1, h2, h3⟩ := ih h'
        exact ⟨s :: xs, by simp [h1], by simp [h2], fun b hb => (List.mem_cons.1 hb).elim (fun e => by rw [e]; exact hs) (h3 b)⟩
end
end Go.Proofs.YtddhfdbfackahaaDoor.D

namespace Go.Proofs.YtddhfdbfackahaaDoor.N
open Go
def findW (l : List TPut) (i : Int) : Option TPut := l.reverse.find? fun p => p.At == i
def disk_Read (d : TDisk) (i : Int) : List UInt8 × Bool :=
  bif !d.Down && (decide (0 ≤ i) && decide (i < (d.Last.length : Int))) then
    (match findW d.Wait i with
    | some p => p.B
    | none => d.Last.getD i.toNat [], true)
  else ([], false)
theorem findW_some {l : List TPut} {i : Int} {m : Nat} {p : TPut} (h : l[m]? = some p) (hp : p.At = i) (hr : ∀ (j : Nat) q, m < j → l[j]? = some q → q.At ≠ i) : findW l i = some p := by
  unfold findW
  obtain ⟨hm, rfl⟩ := List.getElem?_eq_some_iff.1 h
  have hs : l = l.take m ++ l[m] :: l.drop (m + 1) := by rw [← List.drop_eq_getElem_cons hm, List.take_append_drop]
  generalize l[m] = p at hp hs
  generalize ha : l.take m = a at hs
  generalize hb : l.drop (m + 1) = b at hs
  have hrb : ∀ q ∈ b, q.At ≠ i := by
    intro q hq
    rw [← hb] at hq
    obtain ⟨j, hj, rfl⟩ := List.getElem_of_mem hq
    rw [List.getElem_drop]
    exact hr (m + 1 + j) _ (by omega) (List.getElem?_eq_getElem _)
  rw [hs, List.reverse_append, List.reverse_cons, List.find?_append, List.find?_append]
  have h1 : b.reverse.find? (fun p => p.At == i) = none := by
    rw [List.find?_eq_none]
    intro q hq
    simpa using hrb q (List.mem_reverse.1 hq)
  rw [h1]
  simp [hp]
theorem findW_none {l : List TPut} {i : Int} (h : ∀ q ∈ l, q.At ≠ i) : findW l i = none := by
  unfold findW
  rw [List.find?_eq_none]
  intro q hq
  simpa using h q (List.mem_reverse.1 hq)
end Go.Proofs.YtddhfdbfackahaaDoor.N
