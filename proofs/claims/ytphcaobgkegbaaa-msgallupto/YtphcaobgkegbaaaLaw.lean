/- Proved: MsgAll answers true at all arguments of bounded bulk. No condition beyond the statement's. (This text joins: Messages in plain words: the document's reader; tells read. Messages in plain words: what is written is read back; what is turned is seen. Made asks and tells may be sent. The plain law of MsgAll.) -/
import Derived.Test.YtphcaobgkegbaaaSeat4
import Derived.KernelRfl
import Derived.Test.YtphcaobgkegbaaaSeat1
import Derived.Test.YtphcaobgkegbaaaSeat3
set_option linter.unusedVariables false
set_option linter.unusedSimpArgs false
namespace Go.Proofs.Ytphcaobgkegbaaa.N
open Go

theorem rr1 (r : Ttenancyref13_Reader) : ref13_Reader_Num fuel 1 r = some (rnum 1 r) := ref13_num_ok r 1 (by omega) (by omega)
theorem rr4 (r : Ttenancyref13_Reader) : ref13_Reader_Num fuel 4 r = some (rnum 4 r) := ref13_num_ok r 4 (by omega) (by omega)
theorem rnum_some {k : Nat} {b r : List UInt8} {v : Int} (h : num k b = some (v, r)) : rnum k ⟨b, false⟩ = (v, ⟨r, false⟩) := by unfold rnum; simp [h]
theorem rnum_none {k : Nat} {b : List UInt8} (h : num k b = none) : rnum k ⟨b, false⟩ = (0, ⟨b, true⟩) := by unfold rnum; simp [h]
theorem rnum_bad {k : Nat} {b : List UInt8} : rnum k ⟨b, true⟩ = (0, ⟨b, true⟩) := rfl
theorem rtext_some {b r s : List UInt8} (h : text b = some (s, r)) : rtext ⟨b, false⟩ = (s, ⟨r, false⟩) := by unfold rtext; simp [h]
theorem rtext_none {b : List UInt8} (h : text b = none) : rtext ⟨b, false⟩ = ([], ⟨b, true⟩) := by unfold rtext; simp [h]
theorem rtext_bad {b : List UInt8} : rtext ⟨b, true⟩ = ([], ⟨b, true⟩) := rfl

def qOut (o : Option (List TWrite × List UInt8)) (a : TAsk) (s : TAsk × Ttenancyref13_Reader × TAsk) : Prop :=
  match o with
  | some (l, r) => s.2 = (⟨r, false⟩, ⟨a.Kind, a.From, a.Epoch, a.Seq, a.Name, a.File, a.Mode, l⟩)
  | none => s.2.1.Bad = true

theorem ref_loop_bad (b0 : List UInt8) (m : Nat) (B : List UInt8) (o a : TAsk) (n : Nat) : ∃ s, iter (ref13_TakeAsk_s0 fuel b0) (n + 1) ((m : Int), o, ⟨B, true⟩, a) = some s ∧ s.2.1.Bad = true := by
  rw [iter_succ]
  simp only [ref13_TakeAsk_s0, ref13_TakeAsk_s0k]
  cases decide ((m : Int) > 0) <;> exact ⟨_, rfl, rfl⟩

theorem ref_loop (b0 : List UInt8) : ∀ (m : Nat) (b : List UInt8) (o a : TAsk) (n : Nat), m < n → m ≤ 255 → a.Writes.length + m ≤ 1000 → b.length ≤ lim → ∃ s, iter (ref13_TakeAsk_s0 fuel b0) n ((m : Int), o, ⟨b, false⟩, a) = some s ∧ qOut (pWrites m b a.Writes) a s
  | _, _, _, _, 0, h, _, _, _ => absurd h (Nat.not_lt_zero _)
  | 0, b, o, a, n + 1, _, _, _, _ => by
    rw [iter_succ]
    exact ⟨_, rfl, rfl⟩
  | m + 1, b, o, a, n + 1, h, h2, h3, h4 => by
    have e : ((m + 1 : Nat) : Int) - 1 = (m : Int) := by omega
    rw [iter_succ]
    simp only [ref13_TakeAsk_s0, ref13_TakeAsk_s0k]
    rw [decide_eq_true (show ((m + 1 : Nat) : Int) > 0 by omega), rr1, wi64_of (by omega) (by omega), e, decide_eq_true (show a.Writes.length + 1 ≤ lim by rw [lim_eq]; omega)]
    simp only [cond_true, some_bind, pWrites, Bool.not_false]
    obtain ⟨n', rfl⟩ : ∃ n', n = n' + 1 := ⟨n - 1, by omega⟩
    cases hn : num 1 b with
    | none =>
      rw [rnum_none hn]
      simp only []
      rw [ref13_text_ok _ (by exact h4), rtext_bad]
      exact ref_loop_bad _ _ _ _ _ _
    | some p =>
      obtain ⟨v, r⟩ := p
      have hp := num_parts hn
      rw [rnum_some hn]
      simp only [some_bind]
      rw [ref13_text_ok _ (by show r.length ≤ lim; omega)]
      cases ht : text r with
      | none =>
        rw [rtext_none ht]
        exact ref_loop_bad _ _ _ _ _ _
      | some q =>
        obtain ⟨s, t⟩ := q
        have hq := text_lt ht
        rw [rtext_some ht]
        exact ref_loop b0 m t _ ⟨a.Kind, a.From, a.Epoch, a.Seq, a.Name, a.File, a.Mode, a.Writes ++ [⟨v, s⟩]⟩ (n' + 1) (by omega) (by omega) (by simp; omega) (by omega)

theorem putAsk_no {a : TAsk} (h : mayAsk a = false) : putAsk a = [] := by unfold putAsk; rw [h]; rfl

theorem ref13_TakeAsk_ok (b : List UInt8) (hb : b.length ≤ lim) : ref13_TakeAsk fuel b = some (takeAsk b) := by
  have bad : ∀ (B : List UInt8) (a : TAsk), ref13_TakeAsk_l0 fuel b 0 (TAsk.mk 0 0 0 0 [] 0 0 []) ⟨B, true⟩ a = some (TAsk.mk 0 0 0 0 [] 0 0 [], ⟨B, true⟩, a) := by
    intro B a
    unfold ref13_TakeAsk_l0
    obtain ⟨n, hn⟩ : ∃ n, fuel = n + 1 := ⟨4294967295, by rw [fuel_eq]⟩
    generalize hs : ref13_TakeAsk_s0 fuel b = st
    rw [hn, iter_succ, ← hs]
    rfl
  unfold ref13_TakeAsk ref13_TakeAsk_k takeAsk pAsk
  simp only [rr1, rr4, some_bind]
  cases h1 : num 1 b with
  | none =>
    rw [rnum_none h1]
    simp only [rnum_bad, some_bind]
    rw [ref13_text_ok _ (by exact hb), rtext_bad]
    simp only [rnum_bad, some_bind]
    rw [bad]; rfl
  | some p1 =>
    obtain ⟨k, b1⟩ := p1
    have g1 := num_parts h1
    rw [rnum_some h1]
    simp only [some_bind]
    cases h2 : num 1 b1 with
    | none =>
      rw [rnum_none h2]
      simp only [rnum_bad, some_bind]
      rw [ref13_text_ok _ (by show b1.length ≤ lim; omega), rtext_bad]
      simp only [rnum_bad, some_bind]
      rw [bad]; rfl
    | some p2 =>
      obtain ⟨f, b2⟩ := p2
      have g2 := num_parts h2
      rw [rnum_some h2]
      simp only [some_bind]
      cases h3 : num 4 b2 with
      | none =>
        rw [rnum_none h3]
        simp only [rnum_bad, some_bind]
        rw [ref13_text_ok _ (by show b2.length ≤ lim; omega), rtext_bad]
        simp only [rnum_bad, some_bind]
        rw [bad]; rfl
      | some p3 =>
        obtain ⟨e, b3⟩ := p3
        have g3 := num_parts h3
        rw [rnum_some h3]
        simp only [some_bind]
        cases h4 : num 4 b3 with
        | none =>
          rw [rnum_none h4]
          simp only [rnum_bad, some_bind]
          rw [ref13_text_ok _ (by show b3.length ≤ lim; omega), rtext_bad]
          simp only [rnum_bad, some_bind]
          rw [bad]; rfl
        | some p4 =>
          obtain ⟨s, b4⟩ := p4
          have g4 := num_parts h4
          rw [rnum_some h4]
          simp only [some_bind]
          rw [ref13_text_ok _ (by show b4.length ≤ lim; omega)]
          simp only [some_bind]
          cases h5 : text b4 with
          | none =>
            rw [rtext_none h5]
            simp only [rnum_bad, some_bind]
            rw [bad]; rfl
          | some p5 =>
            obtain ⟨nm, b5⟩ := p5
            have g5 := text_lt h5
            rw [rtext_some h5]
            simp only [some_bind]
            cases h6 : num 1 b5 with
            | none =>
              rw [rnum_none h6]
              simp only [rnum_bad, some_bind]
              rw [bad]; rfl
            | some p6 =>
              obtain ⟨fl, b6⟩ := p6
              have g6 := num_parts h6
              rw [rnum_some h6]
              simp only [some_bind]
              cases h7 : num 1 b6 with
              | none =>
                rw [rnum_none h7]
                simp only [rnum_bad, some_bind]
                rw [bad]; rfl
              | some p7 =>
                obtain ⟨m, b7⟩ := p7
                have g7 := num_parts h7
                rw [rnum_some h7]
                simp only [some_bind]
                cases h8 : num 1 b7 with
                | none =>
                  rw [rnum_none h8]
                  rw [bad]; rfl
                | some p8 =>
                  obtain ⟨n, b8⟩ := p8
                  obtain ⟨g8, g9, g10, _, _⟩ := num_parts h8
                  rw [rnum_some h8]
                  simp only [some_bind]
                  have g10 : n < 256 := g10
                  obtain ⟨o, h9, h10⟩ := ref_loop b n.toNat b8 noAsk ⟨k, f, e, s, nm, fl, m, []⟩ fuel (fuel_gt (by omega)) (by omega) (by simp; omega) (by omega)
                  have en : ((n.toNat : Nat) : Int) = n := by omega
                  rw [en] at h9
                  have h9' : ref13_TakeAsk_l0 fuel b n (TAsk.mk 0 0 0 0 [] 0 0 []) ⟨b8, false⟩ ⟨k, f, e, s, nm, fl, m, []⟩ = some o := h9
                  rw [h9']
                  have h10 : qOut (pWrites n.toNat b8 []) ⟨k, f, e, s, nm, fl, m, []⟩ o := h10
                  cases hw : pWrites n.toNat b8 [] with
                  | none =>
                    rw [hw] at h10
                    have h10 : o.2.1.Bad = true := h10
                    simp only [some_bind, h10, cond_true]
                    rfl
                  | some p9 =>
                    rw [hw] at h10
                    have hl := pWrites_len _ _ _ _ _ hw
                    have h10 : o.2 = (⟨p9.2, false⟩, ⟨k, f, e, s, nm, fl, m, p9.1⟩) := h10
                    have h5' := text_parts h5
                    simp only [some_bind, h10, cond_false]
                    rw [ref13_MayAsk_ok _ (by show nm.length < _; omega) (by show p9.1.length < _; rw [hl.1]; simp; omega), ref13_PutAsk_ok _ (by show nm.length < _; omega) (by show p9.1.length < _; rw [hl.1]; simp; omega)]
                    simp only [some_bind]
                    cases hm : mayAsk ⟨k, f, e, s, nm, fl, m, p9.1⟩ with
                    | true =>
                      simp only [Bool.not_true, cond_false]
                      cases putAsk ⟨k, f, e, s, nm, fl, m, p9.1⟩ == b <;> rfl
                    | false =>
                      have hne : (putAsk ⟨k, f, e, s, nm, fl, m, p9.1⟩ == b) = false := by
                        rw [putAsk_no hm]
                        cases b with
                        | nil => cases h1
                        | cons x t => rfl
                      rw [hne]
                      rfl

/-! Tells -/
def pTell (b : List UInt8) : Option (TTell × List UInt8) :=
  (num 1 b).bind fun k => (num 1 k.2).bind fun f => (num 4 f.2).bind fun e => (num 4 e.2).bind fun s => (num 1 s.2).bind fun er => (num 1 er.2).bind fun fl => (num 1 fl.2).bind fun m => (num 4 m.2).bind fun ve =>
    (text ve.2).bind fun w => some (⟨k.1, f.1, e.1, s.1, er.1, fl.1, m.1, ve.1, w.1⟩, w.2)

theorem pTell_parts {b : List UInt8} {t : TTell} {r : List UInt8} (h : pTell b = some (t, r)) : b ≠ [] := by
  rintro rfl
  cases h

theorem reader_tell_ok (b : List UInt8) (hb : b.length ≤ lim) : ∃ s, msg_reader_tell fuel ⟨b⟩ = some s ∧ rOut (pTell b) s := by
  unfold msg_reader_tell msg_reader_tell_k pTell
  rw [rd1]
  cases h1 : num 1 b with
  | none => exact ⟨_, rfl, _, rfl⟩
  | some p1 =>
    obtain ⟨k, b1⟩ := p1
    have g1 := num_parts h1
    simp only [some_bind, alt_inl]
    rw [rd1]
    cases h2 : num 1 b1 with
    | none => exact ⟨_, rfl, _, rfl⟩
    | some p2 =>
      obtain ⟨f, b2⟩ := p2
      have g2 := num_parts h2
      simp only [some_bind, alt_inl]
      rw [rd4]
      cases h3 : num 4 b2 with
      | none => exact ⟨_, rfl, _, rfl⟩
      | some p3 =>
        obtain ⟨e, b3⟩ := p3
        have g3 := num_parts h3
        simp only [some_bind, alt_inl]
        rw [rd4]
        cases h4 : num 4 b3 with
        | none => exact ⟨_, rfl, _, rfl⟩
        | some p4 =>
          obtain ⟨s, b4⟩ := p4
          have g4 := num_parts h4
          simp only [some_bind, alt_inl]
          rw [rd1]
          cases h5 : num 1 b4 with
          | none => exact ⟨_, rfl, _, rfl⟩
          | some p5 =>
            obtain ⟨er, b5⟩ := p5
            have g5 := num_parts h5
            simp only [some_bind, alt_inl]
            rw [rd1]
            cases h6 : num 1 b5 with
            | none => exact ⟨_, rfl, _, rfl⟩
            | some p6 =>
              obtain ⟨fl, b6⟩ := p6
              have g6 := num_parts h6
              simp only [some_bind, alt_inl]
              rw [rd1]
              cases h7 : num 1 b6 with
              | none => exact ⟨_, rfl, _, rfl⟩
              | some p7 =>
                obtain ⟨m, b7⟩ := p7
                have g7 := num_parts h7
                simp only [some_bind, alt_inl]
                rw [rd4]
                cases h8 : num 4 b7 with
                | none => exact ⟨_, rfl, _, rfl⟩
                | some p8 =>
                  obtain ⟨n, b8⟩ := p8
                  have g8 := num_parts h8
                  simp only [some_bind, alt_inl]
                  rw [reader_text_ok _ (by omega)]
                  cases h9 : text b8 with
                  | none => exact ⟨_, rfl, _, rfl⟩
                  | some p9 => exact ⟨_, rfl, rfl⟩

def noTell : TTell := ⟨0, 0, 0, 0, 0, 0, 0, 0, []⟩
def takeTell (b : List UInt8) : TTell × Bool :=
  match pTell b with
  | some (a, _) => bif putTell a == b then (a, true) else (noTell, false)
  | none => (noTell, false)

theorem putTell_len (t : TTell) : (putTell t).length ≤ 44 := by
  unfold putTell
  cases h : msg_MayTell t with
  | false => simp
  | true =>
    obtain ⟨_, _, _, _, _, _, _, _, h9⟩ := mayTell_of h
    have := bodyTell_len t
    simp only [cond_true, sealB_len]; omega

theorem msg_TakeTell_ok (b : List UInt8) (hb : b.length ≤ lim) : msg_TakeTell fuel b = some (takeTell b) := by
  obtain ⟨s, h1, h2⟩ := reader_tell_ok b hb
  unfold msg_TakeTell msg_TakeTell_k msg_takes_Tell msg_takes_Tell_k
  rw [h1]
  unfold takeTell
  cases hp : pTell b with
  | none =>
    rw [hp] at h2
    obtain ⟨q, rfl⟩ := h2
    rfl
  | some p =>
    obtain ⟨a, r⟩ := p
    rw [hp] at h2
    simp only [rOut] at h2
    subst h2
    have hb0 : ((b.length : Int) == 0) = false := by
      cases b with
      | nil => exact absurd rfl (pTell_parts hp)
      | cons x t => simp; omega
    simp only [some_bind, alt_inl]
    rw [hb0, msg_PutTell_ok a]
    simp only [some_bind, cond_false]
    rw [equal_bytes _ _ (by have := putTell_len a; omega)]
    cases putTell a == b <;> rfl

theorem putTell_no {a : TTell} (h : msg_MayTell a = false) : putTell a = [] := by unfold putTell; rw [h]; rfl

theorem ref13_TakeTell_ok (b : List UInt8) (hb : b.length ≤ lim) : ref13_TakeTell fuel b = some (takeTell b) := by
  unfold ref13_TakeTell ref13_TakeTell_k takeTell pTell
  simp only [rr1, rr4, some_bind]
  cases h1 : num 1 b with
  | none =>
    rw [rnum_none h1]
    simp only [rnum_bad, some_bind]
    rw [ref13_text_ok _ (by exact hb), rtext_bad]
    rfl
  | some p1 =>
    obtain ⟨k, b1⟩ := p1
    have g1 := num_parts h1
    rw [rnum_some h1]
    simp only [some_bind]
    cases h2 : num 1 b1 with
    | none =>
      rw [rnum_none h2]
      simp only [rnum_bad, some_bind]
      rw [ref13_text_ok _ (by show b1.length ≤ lim; omega), rtext_bad]
      rfl
    | some p2 =>
      obtain ⟨f, b2⟩ := p2
      have g2 := num_parts h2
      rw [rnum_some h2]
      simp only [some_bind]
      cases h3 : num 4 b2 with
      | none =>
        rw [rnum_none h3]
        simp only [rnum_bad, some_bind]
        rw [ref13_text_ok _ (by show b2.length ≤ lim; omega), rtext_bad]
        rfl
      | some p3 =>
        obtain ⟨e, b3⟩ := p3
        have g3 := num_parts h3
        rw [rnum_some h3]
        simp only [some_bind]
        cases h4 : num 4 b3 with
        | none =>
          rw [rnum_none h4]
          simp only [rnum_bad, some_bind]
          rw [ref13_text_ok _ (by show b3.length ≤ lim; omega), rtext_bad]
          rfl
        | some p4 =>
          obtain ⟨s, b4⟩ := p4
          have g4 := num_parts h4
          rw [rnum_some h4]
          simp only [some_bind]
          cases h5 : num 1 b4 with
          | none =>
            rw [rnum_none h5]
            simp only [rnum_bad, some_bind]
            rw [ref13_text_ok _ (by show b4.length ≤ lim; omega), rtext_bad]
            rfl
          | some p5 =>
            obtain ⟨er, b5⟩ := p5
            have g5 := num_parts h5
            rw [rnum_some h5]
            simp only [some_bind]
            cases h6 : num 1 b5 with
            | none =>
              rw [rnum_none h6]
              simp only [rnum_bad, some_bind]
              rw [ref13_text_ok _ (by show b5.length ≤ lim; omega), rtext_bad]
              rfl
            | some p6 =>
              obtain ⟨fl, b6⟩ := p6
              have g6 := num_parts h6
              rw [rnum_some h6]
              simp only [some_bind]
              cases h7 : num 1 b6 with
              | none =>
                rw [rnum_none h7]
                simp only [rnum_bad, some_bind]
                rw [ref13_text_ok _ (by show b6.length ≤ lim; omega), rtext_bad]
                rfl
              | some p7 =>
                obtain ⟨m, b7⟩ := p7
                have g7 := num_parts h7
                rw [rnum_some h7]
                simp only [some_bind]
                cases h8 : num 4 b7 with
                | none =>
                  rw [rnum_none h8]
                  simp only [rnum_bad, some_bind]
                  rw [ref13_text_ok _ (by show b7.length ≤ lim; omega), rtext_bad]
                  rfl
                | some p8 =>
                  obtain ⟨ve, b8⟩ := p8
                  have g8 := num_parts h8
                  rw [rnum_some h8]
                  simp only [some_bind]
                  rw [ref13_text_ok _ (by show b8.length ≤ lim; omega)]
                  simp only [some_bind]
                  cases h9 : text b8 with
                  | none =>
                    rw [rtext_none h9]
                    rfl
                  | some p9 =>
                    obtain ⟨w, b9⟩ := p9
                    rw [rtext_some h9]
                    simp only [some_bind, cond_false]
                    rw [ref13_PutTell_ok, ← MayTell_eq]
                    simp only [some_bind]
                    cases hm : msg_MayTell ⟨k, f, e, s, er, fl, m, ve, w⟩ with
                    | true =>
                      simp only [Bool.not_true, cond_false]
                      cases putTell ⟨k, f, e, s, er, fl, m, ve, w⟩ == b <;> rfl
                    | false =>
                      have hne : (putTell ⟨k, f, e, s, er, fl, m, ve, w⟩ == b) = false := by
                        rw [putTell_no hm]
                        cases b with
                        | nil => cases h1
                        | cons x t => rfl
                      rw [hne]
                      rfl
end Go.Proofs.Ytphcaobgkegbaaa.N

set_option linter.unusedVariables false
set_option linter.unusedSimpArgs false
namespace Go.Proofs.Ytphcaobgkegbaaa.N
open Go

theorem i8_byteAt {v : Int} (h : 0 ≤ v) (k : Nat) (hk : k ≤ 3) : i8 (byteAt v k) = v / 256 ^ k % 256 := by
  have key : ∀ s : Int, byteAt v k = b8 (wu8 s) → i8 (byteAt v k) = s % 256 := by
    intro s hs
    rw [hs]
    have e : wu8 s = s % 256 := by unfold wu8; rw [IntKind.wrap_u8]
    rw [e, i8_b8 (by omega) (by omega)]
  have h3 : k = 0 ∨ k = 1 ∨ k = 2 ∨ k = 3 := by omega
  rcases h3 with rfl | rfl | rfl | rfl
  · refine key (v / 256 ^ 0) (congrArg (fun s => b8 (wu8 s)) ?_)
    rw [wi64_of (by omega) (by omega)]
    show v.fdiv 1 = v / 1
    rw [Int.fdiv_eq_ediv_of_nonneg _ (by omega)]
  · refine key (v / 256 ^ 1) (congrArg (fun s => b8 (wu8 s)) ?_)
    rw [wi64_of (by omega) (by omega)]
    show v.fdiv 256 = v / 256
    rw [Int.fdiv_eq_ediv_of_nonneg _ (by omega)]
  · refine key (v / 256 ^ 2) (congrArg (fun s => b8 (wu8 s)) ?_)
    rw [wi64_of (by omega) (by omega)]
    show v.fdiv 65536 = v / 65536
    rw [Int.fdiv_eq_ediv_of_nonneg _ (by omega)]
  · refine key (v / 256 ^ 3) (congrArg (fun s => b8 (wu8 s)) ?_)
    rw [wi64_of (by omega) (by omega)]
    show v.fdiv 16777216 = v / 16777216
    rw [Int.fdiv_eq_ediv_of_nonneg _ (by omega)]

theorem val_be1 {v : Int} (h : 0 ≤ v) (h2 : v < 256) : val (be 1 v) = v := by
  have e0 := i8_byteAt h 0 (by omega)
  show 0 * 256 + i8 (byteAt v 0) = v
  rw [e0]
  have : (256 : Int) ^ 0 = 1 := rfl
  rw [this]
  omega
theorem val_be2 {v : Int} (h : 0 ≤ v) (h2 : v < 65536) : val (be 2 v) = v := by
  have e0 := i8_byteAt h 0 (by omega)
  have e1 := i8_byteAt h 1 (by omega)
  show (0 * 256 + i8 (byteAt v 1)) * 256 + i8 (byteAt v 0) = v
  rw [e0, e1]
  have h0 : (256 : Int) ^ 0 = 1 := rfl
  have h1 : (256 : Int) ^ 1 = 256 := rfl
  rw [h0, h1]
  omega
theorem val_be4 {v : Int} (h : 0 ≤ v) (h2 : v < 4294967296) : val (be 4 v) = v := by
  have e0 := i8_byteAt h 0 (by omega)
  have e1 := i8_byteAt h 1 (by omega)
  have e2 := i8_byteAt h 2 (by omega)
  have e3 := i8_byteAt h 3 (by omega)
  show (((0 * 256 + i8 (byteAt v 3)) * 256 + i8 (byteAt v 2)) * 256 + i8 (byteAt v 1)) * 256 + i8 (byteAt v 0) = v
  rw [e0, e1, e2, e3]
  have h0 : (256 : Int) ^ 0 = 1 := rfl
  have h1 : (256 : Int) ^ 1 = 256 := rfl
  have h2 : (256 : Int) ^ 2 = 65536 := rfl
  have h3 : (256 : Int) ^ 3 = 16777216 := rfl
  rw [h0, h1, h2, h3]
  omega

theorem num_be {k : Nat} {v : Int} (h : val (be k v) = v) (s : List UInt8) : num k (be k v ++ s) = some (v, s) := by
  unfold num
  have e : (be k v).length = k := be_len k v
  rw [if_neg (by rw [List.length_append]; omega)]
  have h1 : (be k v ++ s).take k = be k v := by rw [List.take_append_of_le_length (by omega), List.take_of_length_le (by omega)]
  have h2 : (be k v ++ s).drop k = s := by rw [List.drop_append_of_le_length (by omega), List.drop_of_length_le (by omega)]; rfl
  rw [h1, h2, h]

theorem num1 {v : Int} (h : 0 ≤ v) (h2 : v < 256) (s : List UInt8) : num 1 (be 1 v ++ s) = some (v, s) := num_be (val_be1 h h2) s
theorem num4 {v : Int} (h : 0 ≤ v) (h2 : v < 4294967296) (s : List UInt8) : num 4 (be 4 v ++ s) = some (v, s) := num_be (val_be4 h h2) s

theorem text_txt (t s : List UInt8) (h : t.length ≤ 255) : text (txt t ++ s) = some (t, s) := by
  show text (b8 (t.length : Int) :: (t ++ s)) = _
  have e : (b8 (t.length : Int)).toNat = t.length := by
    have := i8_b8 (n := (t.length : Int)) (by omega) (by omega)
    unfold i8 at this
    omega
  rw [text_cons, e, if_neg (by rw [List.length_append]; omega), List.take_append_of_le_length (by omega), List.take_of_length_le (by omega), List.drop_append_of_le_length (by omega), List.drop_of_length_le (by omega)]
  rfl

theorem pWrites_wrs : ∀ (l acc : List TWrite) (s : List UInt8), (∀ w ∈ l, file_May w = true) → pWrites l.length (wrs l ++ s) acc = some (acc ++ l, s)
  | [], acc, s, _ => by simp [pWrites, wrs]
  | w :: r, acc, s, h => by
    have hw := file_May_iff.1 (h w (by simp))
    have e : wrs (w :: r) ++ s = be 1 w.Off ++ (txt w.B ++ (wrs r ++ s)) := by
      simp only [wrs, List.map_cons, List.flatten_cons, wr1, List.append_assoc]
    simp only [List.length_cons, pWrites]
    rw [e, num1 hw.1 (by omega), some_bind, text_txt _ _ (by omega), some_bind, pWrites_wrs r _ s (fun x hx => h x (by simp [hx]))]
    simp

theorem pAsk_body {a : TAsk} (h : mayAsk a = true) (s : List UInt8) : pAsk (bodyAsk a ++ s) = some (a, s) := by
  obtain ⟨h1, h2, h3, h4, h5, h6, h7, h8, h9⟩ := mayAsk_of h
  have e : bodyAsk a ++ s = be 1 a.Kind ++ (be 1 a.From ++ (be 4 a.Epoch ++ (be 4 a.Seq ++ (txt a.Name ++ (be 1 a.File ++ (be 1 a.Mode ++ (be 1 (a.Writes.length : Int) ++ (wrs a.Writes ++ s)))))))) := by
    simp only [bodyAsk, headAsk, List.append_assoc]
  unfold pAsk
  rw [e, num1 (by omega) (by omega), some_bind, num1 (by omega) (by omega), some_bind, num4 (by omega) (by omega), some_bind, num4 (by omega) (by omega), some_bind, text_txt _ _ (by omega), some_bind, num1 (by omega) (by omega), some_bind, num1 (by omega) (by omega), some_bind, num1 (by omega) (by omega), some_bind]
  rw [Int.toNat_natCast, pWrites_wrs _ _ _ h9]
  rfl

theorem pTell_body {t : TTell} (h : msg_MayTell t = true) (s : List UInt8) : pTell (bodyTell t ++ s) = some (t, s) := by
  obtain ⟨h1, h2, h3, h4, h5, h6, h7, h8, h9⟩ := mayTell_of h
  have e : bodyTell t ++ s = be 1 t.Kind ++ (be 1 t.To ++ (be 4 t.Epoch ++ (be 4 t.Seq ++ (be 1 t.Err ++ (be 1 t.File ++ (be 1 t.Mode ++ (be 4 t.Ver ++ (txt t.Body ++ s)))))))) := by
    simp only [bodyTell, List.append_assoc]
  unfold pTell
  rw [e, num1 (by omega) (by omega), some_bind, num1 (by omega) (by omega), some_bind, num4 (by omega) (by omega), some_bind, num4 (by omega) (by omega), some_bind, num1 (by omega) (by omega), some_bind, num1 (by omega) (by omega), some_bind, num1 (by omega) (by omega), some_bind, num4 (by omega) (by omega), some_bind, text_txt _ _ (by omega), some_bind]

theorem putAsk_yes {a : TAsk} (h : mayAsk a = true) : putAsk a = bodyAsk a ++ be 2 (crcN (bodyAsk a) : Int) := by unfold putAsk; rw [h]; rfl
theorem putTell_yes {t : TTell} (h : msg_MayTell t = true) : putTell t = bodyTell t ++ be 2 (crcN (bodyTell t) : Int) := by unfold putTell; rw [h]; rfl

theorem takeAsk_put {a : TAsk} (h : mayAsk a = true) : takeAsk (putAsk a) = (a, true) := by
  unfold takeAsk
  rw [putAsk_yes h, pAsk_body h]
  simp only []
  rw [putAsk_yes h, beq_self_eq_true]
  rfl
theorem takeTell_put {a : TTell} (h : msg_MayTell a = true) : takeTell (putTell a) = (a, true) := by
  unfold takeTell
  rw [putTell_yes h, pTell_body h]
  simp only []
  rw [putTell_yes h, beq_self_eq_true]
  rfl

/-! Longer bytes read the same at the front -/
theorem num_app {k : Nat} {b : List UInt8} {v : Int} {r : List UInt8} (h : num k b = some (v, r)) (s : List UInt8) : num k (b ++ s) = some (v, r ++ s) := by
  obtain ⟨h1, _, _, h4, h5⟩ := num_parts h
  unfold num
  rw [if_neg (by rw [List.length_append]; omega), List.take_append_of_le_length (by omega), List.drop_append_of_le_length (by omega), ← h4, ← h5]

theorem text_app {b t r : List UInt8} (h : text b = some (t, r)) (s : List UInt8) : text (b ++ s) = some (t, r ++ s) := by
  cases b with
  | nil => cases h
  | cons x q =>
    rw [text_cons] at h
    by_cases hl : q.length < x.toNat
    · rw [if_pos hl] at h; cases h
    · rw [if_neg hl] at h
      cases h
      rw [List.cons_append, text_cons, if_neg (by rw [List.length_append]; omega), List.take_append_of_le_length (by omega), List.drop_append_of_le_length (by omega)]

theorem pWrites_app : ∀ (n : Nat) (b : List UInt8) (l l' : List TWrite) (r s : List UInt8), pWrites n b l = some (l', r) → pWrites n (b ++ s) l = some (l', r ++ s)
  | 0, b, l, l', r, s, h => by cases h; rfl
  | n + 1, b, l, l', r, s, h => by
    simp only [pWrites, Option.bind_eq_some_iff] at h ⊢
    obtain ⟨o, h1, t, h2, h3⟩ := h
    exact ⟨(o.1, o.2 ++ s), num_app h1 s, (t.1, t.2 ++ s), text_app h2 s, pWrites_app n _ _ _ _ s h3⟩

theorem pAsk_app {b : List UInt8} {a : TAsk} {r : List UInt8} (h : pAsk b = some (a, r)) (s : List UInt8) : pAsk (b ++ s) = some (a, r ++ s) := by
  unfold pAsk at h ⊢
  simp only [Option.bind_eq_some_iff] at h ⊢
  obtain ⟨p1, h1, p2, h2, p3, h3, p4, h4, p5, h5, p6, h6, p7, h7, p8, h8, p9, h9, h10⟩ := h
  cases h10
  exact ⟨(p1.1, p1.2 ++ s), num_app h1 s, (p2.1, p2.2 ++ s), num_app h2 s, (p3.1, p3.2 ++ s), num_app h3 s, (p4.1, p4.2 ++ s), num_app h4 s, (p5.1, p5.2 ++ s), text_app h5 s, (p6.1, p6.2 ++ s), num_app h6 s, (p7.1, p7.2 ++ s), num_app h7 s, (p8.1, p8.2 ++ s), num_app h8 s, (p9.1, p9.2 ++ s), pWrites_app _ _ _ _ _ s h9, rfl⟩

theorem pTell_app {b : List UInt8} {a : TTell} {r : List UInt8} (h : pTell b = some (a, r)) (s : List UInt8) : pTell (b ++ s) = some (a, r ++ s) := by
  unfold pTell at h ⊢
  simp only [Option.bind_eq_some_iff] at h ⊢
  obtain ⟨p1, h1, p2, h2, p3, h3, p4, h4, p5, h5, p6, h6, p7, h7, p8, h8, p9, h9, h10⟩ := h
  cases h10
  exact ⟨(p1.1, p1.2 ++ s), num_app h1 s, (p2.1, p2.2 ++ s), num_app h2 s, (p3.1, p3.2 ++ s), num_app h3 s, (p4.1, p4.2 ++ s), num_app h4 s, (p5.1, p5.2 ++ s), num_app h5 s, (p6.1, p6.2 ++ s), num_app h6 s, (p7.1, p7.2 ++ s), num_app h7 s, (p8.1, p8.2 ++ s), num_app h8 s, (p9.1, p9.2 ++ s), text_app h9 s, rfl⟩

theorem takeAsk_true {z : List UInt8} (h : (takeAsk z).2 = true) : ∃ x r, pAsk z = some (x, r) ∧ z = putAsk x ∧ mayAsk x = true := by
  unfold takeAsk at h
  cases hp : pAsk z with
  | none => rw [hp] at h; cases h
  | some p =>
    obtain ⟨x, r⟩ := p
    simp only [hp] at h
    cases he : putAsk x == z with
    | false => rw [he] at h; cases h
    | true =>
      have e := (eq_of_beq he).symm
      refine ⟨x, r, rfl, e, ?_⟩
      cases hm : mayAsk x with
      | true => rfl
      | false => exact absurd (e.trans (putAsk_no hm)) (pAsk_parts hp).2.2

theorem takeTell_true {z : List UInt8} (h : (takeTell z).2 = true) : ∃ x r, pTell z = some (x, r) ∧ z = putTell x ∧ msg_MayTell x = true := by
  unfold takeTell at h
  cases hp : pTell z with
  | none => rw [hp] at h; cases h
  | some p =>
    obtain ⟨x, r⟩ := p
    simp only [hp] at h
    cases he : putTell x == z with
    | false => rw [he] at h; cases h
    | true =>
      have e := (eq_of_beq he).symm
      refine ⟨x, r, rfl, e, ?_⟩
      cases hm : msg_MayTell x with
      | true => rfl
      | false => exact absurd (e.trans (putTell_no hm)) (pTell_parts hp)

/-- Cut bytes are refused. -/
theorem takeAsk_cut {a : TAsk} (h : mayAsk a = true) (j : Nat) (hj : j < (putAsk a).length) : (takeAsk ((putAsk a).take j)).2 = false := by
  cases hz : (takeAsk ((putAsk a).take j)).2 with
  | false => rfl
  | true =>
    obtain ⟨x, r, h1, h2, h3⟩ := takeAsk_true hz
    have h4 := pAsk_app h1 ((putAsk a).drop j)
    rw [List.take_append_drop] at h4
    rw [putAsk_yes h, pAsk_body h] at h4
    have h6 := congrArg Prod.fst (Option.some.inj h4)
    simp only at h6
    subst h6
    have h5 := congrArg List.length h2
    rw [List.length_take] at h5
    omega
theorem takeTell_cut {a : TTell} (h : msg_MayTell a = true) (j : Nat) (hj : j < (putTell a).length) : (takeTell ((putTell a).take j)).2 = false := by
  cases hz : (takeTell ((putTell a).take j)).2 with
  | false => rfl
  | true =>
    obtain ⟨x, r, h1, h2, h3⟩ := takeTell_true hz
    have h4 := pTell_app h1 ((putTell a).drop j)
    rw [List.take_append_drop] at h4
    rw [putTell_yes h, pTell_body h] at h4
    have h6 := congrArg Prod.fst (Option.some.inj h4)
    simp only at h6
    subst h6
    have h5 := congrArg List.length h2
    rw [List.length_take] at h5
    omega

/-- Longer bytes are refused. -/
theorem takeAsk_more {a : TAsk} (h : mayAsk a = true) (m : UInt8) : (takeAsk (putAsk a ++ [m])).2 = false := by
  cases hz : (takeAsk (putAsk a ++ [m])).2 with
  | false => rfl
  | true =>
    obtain ⟨x, r, h1, h2, h3⟩ := takeAsk_true hz
    have h4 : pAsk (putAsk a ++ [m]) = some (a, be 2 (crcN (bodyAsk a) : Int) ++ [m]) := by rw [putAsk_yes h, List.append_assoc, pAsk_body h]
    rw [h4] at h1
    cases h1
    have h5 := congrArg List.length h2
    rw [List.length_append] at h5
    simp at h5
theorem takeTell_more {a : TTell} (h : msg_MayTell a = true) (m : UInt8) : (takeTell (putTell a ++ [m])).2 = false := by
  cases hz : (takeTell (putTell a ++ [m])).2 with
  | false => rfl
  | true =>
    obtain ⟨x, r, h1, h2, h3⟩ := takeTell_true hz
    have h4 : pTell (putTell a ++ [m]) = some (a, be 2 (crcN (bodyTell a) : Int) ++ [m]) := by rw [putTell_yes h, List.append_assoc, pTell_body h]
    rw [h4] at h1
    cases h1
    have h5 := congrArg List.length h2
    rw [List.length_append] at h5
    simp at h5

/-! One turned byte -/
theorem tn_inj {m m' : Nat} (h : m < 65536) (h' : m' < 65536) (e : tn m = tn m') : m = m' := by
  have cross : ∀ {x y : Nat}, x < 32768 → y < 32768 → x ^^^ 40961 = y → False := by
    intro x y hx hy hxy
    have h1 : x ^^^ y = 40961 := by rw [← hxy, ← Nat.xor_assoc, Nat.xor_self, Nat.zero_xor]
    have h2 := Nat.xor_lt_two_pow (n := 15) (show x < 2 ^ 15 by omega) (show y < 2 ^ 15 by omega)
    omega
  unfold tn at e
  by_cases h1 : m % 2 = 1
  · rw [if_pos h1] at e
    by_cases h2 : m' % 2 = 1
    · rw [if_pos h2] at e
      have : m / 2 = m' / 2 := by
        have := congrArg (· ^^^ 40961) e
        simp only [Nat.xor_assoc, Nat.xor_self, Nat.xor_zero] at this
        exact this
      omega
    · rw [if_neg h2] at e
      exact (cross (by omega) (by omega) e).elim
  · rw [if_neg h1] at e
    by_cases h2 : m' % 2 = 1
    · rw [if_pos h2] at e
      exact (cross (by omega) (by omega) e.symm).elim
    · rw [if_neg h2] at e
      omega

theorem tn8_inj {m m' : Nat} (h : m < 65536) (h' : m' < 65536) (e : tn (tn (tn (tn (tn (tn (tn (tn m))))))) = tn (tn (tn (tn (tn (tn (tn (tn m')))))))) : m = m' := by
  have l1 := tn_lt h; have l2 := tn_lt l1; have l3 := tn_lt l2; have l4 := tn_lt l3; have l5 := tn_lt l4; have l6 := tn_lt l5; have l7 := tn_lt l6
  have k1 := tn_lt h'; have k2 := tn_lt k1; have k3 := tn_lt k2; have k4 := tn_lt k3; have k5 := tn_lt k4; have k6 := tn_lt k5; have k7 := tn_lt k6
  exact tn_inj h h' (tn_inj l1 k1 (tn_inj l2 k2 (tn_inj l3 k3 (tn_inj l4 k4 (tn_inj l5 k5 (tn_inj l6 k6 (tn_inj l7 k7 e)))))))

theorem xor_right_inj {a b c : Nat} (h : c ^^^ a = c ^^^ b) : a = b := by
  have := congrArg (c ^^^ ·) h
  simp only [← Nat.xor_assoc, Nat.xor_self, Nat.zero_xor] at this
  exact this

theorem crcByte_inj_u {m : Nat} (h : m < 65536) {u u' : UInt8} (e : crcByte m u = crcByte m u') : u = u' :=
  UInt8.toNat_inj.1 (xor_right_inj (tn8_inj (xor_lt h u) (xor_lt h u') e))

theorem crcByte_inj_m {m m' : Nat} (h : m < 65536) (h' : m' < 65536) {u : UInt8} (e : crcByte m u = crcByte m' u) : m = m' := by
  have := tn8_inj (xor_lt h u) (xor_lt h' u) e
  rw [Nat.xor_comm m, Nat.xor_comm m'] at this
  exact xor_right_inj this

theorem crc_fold_inj : ∀ (l : List UInt8) {m m' : Nat}, m < 65536 → m' < 65536 → l.foldl crcByte m = l.foldl crcByte m' → m = m'
  | [], m, m', _, _, e => e
  | u :: r, m, m', h, h', e => crcByte_inj_m h h' (crc_fold_inj r (crcByte_lt h u) (crcByte_lt h' u) e)

theorem crc_turned : ∀ (l : List UInt8) (m j : Nat) (y y' : UInt8), m < 65536 → l[j]? = some y → y' ≠ y → (l.set j y').foldl crcByte m ≠ l.foldl crcByte m
  | [], m, j, y, y', _, hy, _ => by simp at hy
  | u :: r, m, 0, y, y', h, hy, hne => by
    simp at hy
    subst hy
    intro e
    exact hne (crcByte_inj_u h (crc_fold_inj r (crcByte_lt h _) (crcByte_lt h _) e))
  | u :: r, m, j + 1, y, y', h, hy, hne => by
    intro e
    exact crc_turned r (crcByte m u) j y y' (crcByte_lt h u) (by simpa using hy) hne e

/-- Sealed bytes with one byte turned are no sealed bytes. -/
theorem seal_turned {p q : List UInt8} {j : Nat} {y y' : UInt8} (hy : (sealB p)[j]? = some y) (hne : y' ≠ y) (e : (sealB p).set j y' = sealB q) : False := by
  have hl : p.length = q.length := by
    have := congrArg List.length e
    rw [List.length_set, sealB_len, sealB_len] at this
    omega
  unfold sealB at hy e
  have hj : j < p.length + 2 := by
    have := at_of hy
    rw [List.length_append, be_len] at this
    exact this
  by_cases hjp : j < p.length
  · rw [List.set_append_left _ _ hjp] at e
    obtain ⟨e1, e2⟩ := List.append_inj e (by rw [List.length_set]; exact hl)
    have hy' : p[j]? = some y := by rw [List.getElem?_append_left hjp] at hy; exact hy
    have hc : crcN p = crcN q := by
      have h1 := congrArg val e2
      have l1 := crcN_lt p
      have l2 := crcN_lt q
      rw [val_be2 (by omega) (by omega), val_be2 (by omega) (by omega)] at h1
      omega
    rw [← e1] at hc
    exact crc_turned p 0 j y y' (by omega) hy' hne hc.symm
  · have h1 : j ≥ p.length := by omega
    rw [List.set_append_right _ _ h1] at e
    obtain ⟨e1, e2⟩ := List.append_inj e hl
    subst e1
    rw [List.getElem?_append_right h1] at hy
    have h2 : ((be 2 (crcN p : Int)).set (j - p.length) y')[j - p.length]? = (be 2 (crcN p : Int))[j - p.length]? := by rw [e2]
    rw [List.getElem?_set_self (at_of hy), hy] at h2
    exact hne (Option.some.inj h2)

theorem takeAsk_turned {a : TAsk} (h : mayAsk a = true) {j : Nat} {y y' : UInt8} (hy : (putAsk a)[j]? = some y) (hne : y' ≠ y) : (takeAsk ((putAsk a).set j y')).2 = false := by
  cases hz : (takeAsk ((putAsk a).set j y')).2 with
  | false => rfl
  | true =>
    obtain ⟨x, r, h1, h2, h3⟩ := takeAsk_true hz
    rw [putAsk_yes h] at hy h2
    rw [putAsk_yes h3] at h2
    exact (seal_turned hy hne h2).elim
theorem takeTell_turned {a : TTell} (h : msg_MayTell a = true) {j : Nat} {y y' : UInt8} (hy : (putTell a)[j]? = some y) (hne : y' ≠ y) : (takeTell ((putTell a).set j y')).2 = false := by
  cases hz : (takeTell ((putTell a).set j y')).2 with
  | false => rfl
  | true =>
    obtain ⟨x, r, h1, h2, h3⟩ := takeTell_true hz
    rw [putTell_yes h] at hy h2
    rw [putTell_yes h3] at h2
    exact (seal_turned hy hne h2).elim

theorem bxor_u8 (x y : UInt8) : b8 (bxor .u8 (i8 x) (i8 y)) = x ^^^ y := by
  unfold bxor i8
  have h8 : IntKind.u8.bits = 8 := rfl
  have hx := x.toNat_lt
  have hy := y.toNat_lt
  rw [h8, BitVec.ofInt_natCast, BitVec.ofInt_natCast, BitVec.toNat_xor, BitVec.toNat_ofNat, BitVec.toNat_ofNat, Nat.mod_eq_of_lt (show x.toNat < 2 ^ 8 by omega), Nat.mod_eq_of_lt (show y.toNat < 2 ^ 8 by omega), IntKind.wrap_u8]
  have hlt := Nat.xor_lt_two_pow (n := 8) hx hy
  have e : (((x.toNat ^^^ y.toNat : Nat) : Int) % 256) = ((x.toNat ^^^ y.toNat : Nat) : Int) := by omega
  rw [e]
  unfold b8
  rw [Int.toNat_natCast, ← UInt8.toNat_xor, UInt8.ofNat_toNat]

theorem turned_ne {x y : UInt8} (h : i8 y ≠ 0) : b8 (bxor .u8 (i8 x) (i8 y)) ≠ x := by
  rw [bxor_u8]
  intro e
  have h1 := congrArg UInt8.toNat e
  rw [UInt8.toNat_xor] at h1
  have h2 : x.toNat ^^^ y.toNat = x.toNat ^^^ 0 := by rw [h1, Nat.xor_zero]
  have h3 := xor_right_inj h2
  apply h
  unfold i8
  omega

end Go.Proofs.Ytphcaobgkegbaaa.N

set_option linter.unusedVariables false
set_option linter.unusedSimpArgs false
namespace Go.Proofs.Ytphcaobgkegbaaa.N
open Go

def pok (p : Ttenancymade_Picks) : Prop := 0 ≤ p.n ∧ p.n ≤ 1000 ∧ p.l.length ≤ 1000

theorem made_ok (l : List UInt8) (h : l.length ≤ 1000) : pok (made_Made l) := ⟨Int.le_refl _, by show (0 : Int) ≤ 1000; omega, h⟩

theorem Num_ok (p : Ttenancymade_Picks) (hp : pok p) (m : Int) (h1 : 1 ≤ m) : ∃ r, made_Picks_Num m p = some r ∧ 0 ≤ r.1 ∧ r.1 < m ∧ pok r.2 := by
  obtain ⟨l, n⟩ := p
  obtain ⟨g1, g2, g3⟩ := hp
  simp only at g1 g2 g3
  unfold made_Picks_Num made_Picks_Num_k
  simp only
  by_cases hn : n ≥ (l.length : Int)
  · rw [decide_eq_true hn]
    exact ⟨_, rfl, Int.le_refl _, by show (0 : Int) < m; omega, g1, g2, g3⟩
  · rw [decide_eq_false hn, decide_eq_false (show ¬ m < 1 by omega), wi64_of (show -9223372036854775808 ≤ n + 1 by omega) (by omega)]
    have e : n + 1 - 1 = n := by omega
    rw [e, wi64_of (by omega) (by omega), inR_of g1 (by omega)]
    have hlt : n.toNat < l.length := by omega
    have hm : (m == 0) = false := by simp; omega
    rw [List.getElem?_eq_getElem hlt, hm]
    simp only [cond_false, cond_true, some_bind]
    have hx0 := i8_lo l[n.toNat]
    have hx1 := i8_hi l[n.toNat]
    rw [wi64_of (by omega) (by omega), Int.tmod_eq_emod_of_nonneg hx0]
    exact ⟨_, rfl, Int.emod_nonneg _ (by omega), Int.emod_lt_of_pos _ (by omega), by show 0 ≤ n + 1; omega, by show n + 1 ≤ 1000; omega, g3⟩

theorem Write_ok (p : Ttenancymade_Picks) (hp : pok p) : ∃ r, made_Picks_Write p = some r ∧ file_May r.1 = true ∧ pok r.2 := by
  obtain ⟨r1, e1, h1, h2, h3⟩ := Num_ok p hp 10 (by omega)
  obtain ⟨r2, e2, h4, h5, h6⟩ := Num_ok r1.2 h3 6 (by omega)
  unfold made_Picks_Write made_Picks_Write_k
  rw [e1, some_bind, e2, some_bind, inR_of h4 (by omega)]
  have hk : r2.1 = 0 ∨ r2.1 = 1 ∨ r2.1 = 2 ∨ r2.1 = 3 ∨ r2.1 = 4 ∨ r2.1 = 5 := by omega
  rcases hk with hk | hk | hk | hk | hk | hk <;> rw [hk] <;> exact ⟨_, rfl, file_May_iff.2 (by simp; omega), h6⟩

theorem Writes_loop : ∀ (i : Nat) (p : Ttenancymade_Picks) (l : List TWrite) (n : Nat), i < n → i ≤ 5 → l.length + i ≤ 100 → pok p → (∀ w ∈ l, file_May w = true) →
    ∃ r, iter made_Picks_Writes_s0 n ((i : Int), p, l) = some r ∧ pok r.1 ∧ r.2.length = l.length + i ∧ ∀ w ∈ r.2, file_May w = true
  | _, _, _, 0, h, _, _, _, _ => absurd h (Nat.not_lt_zero _)
  | 0, p, l, n + 1, _, _, _, hp, hl => by
    rw [iter_succ]
    exact ⟨_, rfl, hp, rfl, hl⟩
  | i + 1, p, l, n + 1, h, h5, hll, hp, hl => by
    obtain ⟨r, e, h1, h2⟩ := Write_ok p hp
    rw [iter_succ]
    simp only [made_Picks_Writes_s0, made_Picks_Writes_s0k]
    have e2 : ((i + 1 : Nat) : Int) - 1 = (i : Int) := by omega
    rw [decide_eq_true (show ((i + 1 : Nat) : Int) > 0 by omega), e, wi64_of (by omega) (by omega), e2]
    simp only [cond_true, some_bind]
    rw [decide_eq_true (show l.length + 1 ≤ lim by rw [lim_eq]; omega)]
    obtain ⟨s, g1, g2, g3, g4⟩ := Writes_loop i r.2 (l ++ [r.1]) n (by omega) (by omega) (by simp; omega) h2 (fun w hw => by
      rcases List.mem_append.1 hw with hw | hw
      · exact hl w hw
      · simp at hw; subst hw; exact h1)
    exact ⟨s, g1, g2, by rw [g3]; simp; omega, g4⟩

theorem Writes_ok (m : Nat) (hm : m ≤ 5) (p : Ttenancymade_Picks) (hp : pok p) : ∃ r, made_Picks_Writes fuel (m : Int) p = some r ∧ pok r.1 ∧ r.2.length ≤ m ∧ ∀ w ∈ r.2, file_May w = true := by
  obtain ⟨r1, e1, h1, h2, h3⟩ := Num_ok p hp ((m : Int) + 1) (by omega)
  unfold made_Picks_Writes made_Picks_Writes_k
  rw [wi64_of (by omega) (by omega), e1, some_bind]
  obtain ⟨r, g1, g2, g3, g4⟩ := Writes_loop r1.1.toNat r1.2 [] fuel (fuel_gt (by omega)) (by omega) (by simp; omega) h3 (fun w hw => by cases hw)
  have e : ((r1.1.toNat : Nat) : Int) = r1.1 := by omega
  rw [e] at g1
  have g1' : made_Picks_Writes_l0 fuel r1.1 r1.2 [] = some r := g1
  rw [g1', some_bind]
  exact ⟨_, rfl, g2, by rw [g3]; simp; omega, g4⟩

theorem sameAsk_mk (k f e s : Int) (nm : List UInt8) (fl m : Int) (ws : List TWrite) : sameAsk ⟨k, f, e, s, nm, fl, m, ws⟩ ⟨k, f, e, s, nm, fl, m, ws⟩ = true := sameAsk_refl _

theorem made_Ask_ok (p : Ttenancymade_Picks) (hp : pok p) : ∃ r, made_Picks_Ask fuel p = some r ∧ mayAsk r.1 = true ∧ pok r.2 := by
  obtain ⟨r1, e1, a1, b1, c1⟩ := Num_ok p hp 5 (by omega)
  obtain ⟨r2, e2, a2, b2, c2⟩ := Num_ok r1.2 c1 3 (by omega)
  obtain ⟨r3, e3, a3, b3, c3⟩ := Num_ok r2.2 c2 3 (by omega)
  obtain ⟨r4, e4, a4, b4, c4⟩ := Num_ok r3.2 c3 20 (by omega)
  unfold made_Picks_Ask made_Picks_Ask_k
  rw [e1, some_bind, e2, some_bind, e3, some_bind, e4, some_bind, wi64_of (show -9223372036854775808 ≤ 1 + r1.1 by omega) (by omega), wi64_of (show -9223372036854775808 ≤ 1 + r2.1 by omega) (by omega), wi64_of (show -9223372036854775808 ≤ 1 + r4.1 by omega) (by omega)]
  have hf : rng 1 3 (1 + r2.1) = true := rng_iff.2 ⟨by omega, by omega⟩
  have he : rng 0 1073741824 r3.1 = true := rng_iff.2 ⟨by omega, by omega⟩
  have hs : rng 1 1073741824 (1 + r4.1) = true := rng_iff.2 ⟨by omega, by omega⟩
  have hk : r1.1 = 0 ∨ r1.1 = 1 ∨ r1.1 = 2 ∨ r1.1 = 3 ∨ r1.1 = 4 := by omega
  rcases hk with hk | hk | hk | hk | hk
  · rw [hk]
    obtain ⟨r5, e5, a5, b5, c5⟩ := Num_ok r4.2 c4 4 (by omega)
    show ∃ r, ((made_Picks_Num 4 r4.2).bind _) = some r ∧ _
    rw [e5, some_bind, inR_of a5 (by omega)]
    have hn : r5.1 = 0 ∨ r5.1 = 1 ∨ r5.1 = 2 ∨ r5.1 = 3 := by omega
    rcases hn with hn | hn | hn | hn <;> rw [hn] <;> refine ⟨_, rfl, ?_, c5⟩ <;> unfold mayAsk <;> simp only [hf, he, hs, Bool.true_and] <;> refine Bool.and_eq_true_iff.2 ⟨rfl, Bool.and_eq_true_iff.2 ⟨rfl, sameAsk_refl _⟩⟩
  · rw [hk]
    obtain ⟨r5, e5, a5, b5, c5⟩ := Num_ok r4.2 c4 2 (by omega)
    obtain ⟨r6, e6, a6, b6, c6⟩ := Num_ok r5.2 c5 6 (by omega)
    show ∃ r, ((made_Picks_Num 2 r4.2).bind _) = some r ∧ _
    rw [e5, some_bind, e6, some_bind, wi64_of (show -9223372036854775808 ≤ 1 + r5.1 by omega) (by omega), wi64_of (show -9223372036854775808 ≤ 1 + r6.1 by omega) (by omega)]
    refine ⟨_, rfl, ?_, c6⟩
    have g1 : rng 1 6 (1 + r6.1) = true := rng_iff.2 ⟨by omega, by omega⟩
    have g2 : rng 1 2 (1 + r5.1) = true := rng_iff.2 ⟨by omega, by omega⟩
    unfold mayAsk
    simp only [hf, he, hs, Bool.true_and]
    show (rng 1 5 2 && ((rng 1 6 (1 + r6.1) && rng 1 2 (1 + r5.1)) && sameAsk ⟨2, 1 + r2.1, r3.1, 1 + r4.1, [], 1 + r6.1, 1 + r5.1, []⟩ ⟨2, 1 + r2.1, r3.1, 1 + r4.1, [], 1 + r6.1, 1 + r5.1, []⟩)) = true
    rw [g1, g2, sameAsk_refl]
    rfl
  · rw [hk]
    obtain ⟨r5, e5, a5, b5, c5⟩ := Writes_ok 4 (by omega) r4.2 c4
    obtain ⟨r6, e6, a6, b6⟩ := Write_ok r5.1 a5
    obtain ⟨r7, e7, a7, b7, c7⟩ := Num_ok r6.2 b6 6 (by omega)
    show ∃ r, ((made_Picks_Writes fuel 4 r4.2).bind _) = some r ∧ _
    have e5' : made_Picks_Writes fuel 4 r4.2 = some r5 := e5
    rw [e5', some_bind, e6, some_bind, decide_eq_true (show r5.2.length + 1 ≤ lim by rw [lim_eq]; omega), e7]
    simp only [cond_true, some_bind]
    rw [wi64_of (show -9223372036854775808 ≤ 1 + r7.1 by omega) (by omega)]
    refine ⟨_, rfl, ?_, c7⟩
    have g1 : rng 1 6 (1 + r7.1) = true := rng_iff.2 ⟨by omega, by omega⟩
    have g2 : (r5.2 ++ [r6.1]).all file_May = true := by
      rw [List.all_eq_true]
      intro w hw
      rcases List.mem_append.1 hw with hw | hw
      · exact c5 w hw
      · simp at hw; subst hw; exact a6
    have g3 : decide (((r5.2 ++ [r6.1]).length : Int) ≤ 5) = true := decide_eq_true (by simp; omega)
    have g4 : decide (((r5.2 ++ [r6.1]).length : Int) > 0) = true := decide_eq_true (by rw [List.length_append]; simp only [List.length_cons, List.length_nil]; omega)
    unfold mayAsk
    simp only [hf, he, hs, Bool.true_and]
    show (rng 1 5 3 && ((decide (((r5.2 ++ [r6.1]).length : Int) ≤ 5) && ((decide (((r5.2 ++ [r6.1]).length : Int) > 0) || false) && (rng 1 6 (1 + r7.1) && (r5.2 ++ [r6.1]).all file_May))) && sameAsk ⟨3, 1 + r2.1, r3.1, 1 + r4.1, [], 1 + r7.1, 0, r5.2 ++ [r6.1]⟩ ⟨3, 1 + r2.1, r3.1, 1 + r4.1, [], 1 + r7.1, 0, r5.2 ++ [r6.1]⟩)) = true
    rw [g1, g2, g3, g4, sameAsk_refl]
    rfl
  · rw [hk]
    obtain ⟨r5, e5, a5, b5, c5⟩ := Writes_ok 5 (by omega) r4.2 c4
    obtain ⟨r7, e7, a7, b7, c7⟩ := Num_ok r5.1 a5 6 (by omega)
    show ∃ r, ((made_Picks_Writes fuel 5 r4.2).bind _) = some r ∧ _
    have e5' : made_Picks_Writes fuel 5 r4.2 = some r5 := e5
    rw [e5', some_bind, e7]
    simp only [some_bind]
    rw [wi64_of (show -9223372036854775808 ≤ 1 + r7.1 by omega) (by omega)]
    refine ⟨_, rfl, ?_, c7⟩
    have g1 : rng 1 6 (1 + r7.1) = true := rng_iff.2 ⟨by omega, by omega⟩
    have g2 : r5.2.all file_May = true := by
      rw [List.all_eq_true]
      exact c5
    have g3 : decide ((r5.2.length : Int) ≤ 5) = true := decide_eq_true (by omega)
    unfold mayAsk
    simp only [hf, he, hs, Bool.true_and]
    show (rng 1 5 4 && ((decide ((r5.2.length : Int) ≤ 5) && ((decide ((r5.2.length : Int) > 0) || true) && (rng 1 6 (1 + r7.1) && r5.2.all file_May))) && sameAsk ⟨4, 1 + r2.1, r3.1, 1 + r4.1, [], 1 + r7.1, 0, r5.2⟩ ⟨4, 1 + r2.1, r3.1, 1 + r4.1, [], 1 + r7.1, 0, r5.2⟩)) = true
    rw [g1, g2, g3, Bool.or_true, sameAsk_refl]
    rfl
  · rw [hk]
    obtain ⟨r7, e7, a7, b7, c7⟩ := Num_ok r4.2 c4 6 (by omega)
    show ∃ r, ((made_Picks_Num 6 r4.2).bind _) = some r ∧ _
    rw [e7, some_bind, wi64_of (show -9223372036854775808 ≤ 1 + r7.1 by omega) (by omega)]
    refine ⟨_, rfl, ?_, c7⟩
    have g1 : rng 1 6 (1 + r7.1) = true := rng_iff.2 ⟨by omega, by omega⟩
    unfold mayAsk
    simp only [hf, he, hs, Bool.true_and]
    show (rng 1 5 5 && (rng 1 6 (1 + r7.1) && sameAsk ⟨5, 1 + r2.1, r3.1, 1 + r4.1, [], 1 + r7.1, 0, []⟩ ⟨5, 1 + r2.1, r3.1, 1 + r4.1, [], 1 + r7.1, 0, []⟩)) = true
    rw [g1, sameAsk_refl]
    rfl

theorem made_Tell_ok (p : Ttenancymade_Picks) (hp : pok p) : ∃ r, made_Picks_Tell p = some r ∧ msg_MayTell r.1 = true ∧ pok r.2 := by
  obtain ⟨r1, e1, a1, b1, c1⟩ := Num_ok p hp 3 (by omega)
  obtain ⟨r2, e2, a2, b2, c2⟩ := Num_ok r1.2 c1 3 (by omega)
  obtain ⟨r3, e3, a3, b3, c3⟩ := Num_ok r2.2 c2 3 (by omega)
  unfold made_Picks_Tell made_Picks_Tell_k
  rw [e1, some_bind, e2, some_bind, e3, some_bind, wi64_of (show -9223372036854775808 ≤ 1 + r1.1 by omega) (by omega), wi64_of (show -9223372036854775808 ≤ 1 + r2.1 by omega) (by omega)]
  have hf : rng 1 3 (1 + r2.1) = true := rng_iff.2 ⟨by omega, by omega⟩
  have he : rng 0 1073741824 r3.1 = true := rng_iff.2 ⟨by omega, by omega⟩
  have hk : r1.1 = 0 ∨ r1.1 = 1 ∨ r1.1 = 2 := by omega
  rcases hk with hk | hk | hk
  · rw [hk]
    obtain ⟨r4, e4, a4, b4, c4⟩ := Num_ok r3.2 c3 20 (by omega)
    obtain ⟨r5, e5, a5, b5, c5⟩ := Num_ok r4.2 c4 8 (by omega)
    obtain ⟨r6, e6, a6, b6, c6⟩ := Num_ok r5.2 c5 7 (by omega)
    obtain ⟨r7, e7, a7, b7, c7⟩ := Num_ok r6.2 c6 3 (by omega)
    obtain ⟨r8, e8, a8, b8', c8⟩ := Num_ok r7.2 c7 300 (by omega)
    obtain ⟨r9, e9, a9, b9, c9⟩ := Num_ok r8.2 c8 3 (by omega)
    show ∃ r, ((made_Picks_Num 20 r3.2).bind _) = some r ∧ _
    rw [e4, some_bind, e5, some_bind, e6, some_bind, e7, some_bind, e8, some_bind, e9, some_bind, wi64_of (show -9223372036854775808 ≤ 1 + r4.1 by omega) (by omega), inR_of a9 (by omega)]
    have g1 : rng 1 1073741824 (1 + r4.1) = true := rng_iff.2 ⟨by omega, by omega⟩
    have g2 : decide (r5.1 ≥ 0) = true := decide_eq_true a5
    have g3 : decide (r5.1 ≤ 7) = true := decide_eq_true (by omega)
    have g4 : rng 0 6 r6.1 = true := rng_iff.2 ⟨by omega, by omega⟩
    have g5 : rng 0 2 r7.1 = true := rng_iff.2 ⟨by omega, by omega⟩
    have g6 : rng 0 1073741824 r8.1 = true := rng_iff.2 ⟨by omega, by omega⟩
    have hn : r9.1 = 0 ∨ r9.1 = 1 ∨ r9.1 = 2 := by omega
    rcases hn with hn | hn | hn <;> rw [hn] <;> refine ⟨_, rfl, ?_, c9⟩ <;> unfold msg_MayTell msg_MayTell_k <;> simp only [msg_from_eq, hf, he, g1, g2, g3, g4, g5, g6] <;> rfl
  · rw [hk]
    obtain ⟨r4, e4, a4, b4, c4⟩ := Num_ok r3.2 c3 6 (by omega)
    show ∃ r, ((made_Picks_Num 6 r3.2).bind _) = some r ∧ _
    rw [e4, some_bind, wi64_of (show -9223372036854775808 ≤ 1 + r4.1 by omega) (by omega)]
    refine ⟨_, rfl, ?_, c4⟩
    have g1 : rng 1 6 (1 + r4.1) = true := rng_iff.2 ⟨by omega, by omega⟩
    have g2 : TTell.eqb ⟨2, 1 + r2.1, r3.1, 0, 0, 1 + r4.1, 0, 0, []⟩ ⟨2, 1 + r2.1, r3.1, 0, 0, 1 + r4.1, 0, 0, []⟩ = true := (tell_eqb _ _).2 rfl
    unfold msg_MayTell msg_MayTell_k
    simp only [msg_from_eq, hf, he]
    show (bif !(rng 1 3 2) then false else bif TTell.eqb ⟨2, 1 + r2.1, r3.1, 0, 0, 1 + r4.1, 0, 0, []⟩ ⟨2, 1 + r2.1, r3.1, 0, 0, 1 + r4.1, 0, 0, []⟩ then rng 1 6 (1 + r4.1) else false) = true
    rw [g1, g2]
    rfl
  · rw [hk]
    refine ⟨_, rfl, ?_, c3⟩
    have g2 : TTell.eqb ⟨3, 1 + r2.1, r3.1, 0, 0, 0, 0, 0, []⟩ ⟨3, 1 + r2.1, r3.1, 0, 0, 0, 0, 0, []⟩ = true := (tell_eqb _ _).2 rfl
    unfold msg_MayTell msg_MayTell_k
    simp only [msg_from_eq, hf, he]
    show (bif !(rng 1 3 3) then false else TTell.eqb ⟨3, 1 + r2.1, r3.1, 0, 0, 0, 0, 0, []⟩ ⟨3, 1 + r2.1, r3.1, 0, 0, 0, 0, 0, []⟩) = true
    rw [g2]
    rfl
end Go.Proofs.Ytphcaobgkegbaaa.N

set_option maxRecDepth 100000
set_option linter.unusedVariables false
namespace Go.Proofs.Ytphcaobgkegbaaa.N
open Go
theorem law16_begun_ok : law16_begun fuel = some true := by rw [fuel_eq]; kernel_rfl

theorem light_ok (a : TAsk) (h : a.Writes.length < 4294967296) : ∃ r, law16_Light fuel a = some r ∧ (r = true → a.Writes.length ≤ 8 ∧ a.Name.length ≤ 40) := by
  have hl : law16_Light_l0 fuel a 0 = some (bif a.Writes.all (fun w => !(decide ((w.B.length : Int) > 40))) then .inr () else .inl ()) := by
    unfold law16_Light_l0
    rw [← runL_all (fun w : TWrite => !(decide ((w.B.length : Int) > 40))) (Sum.inl ()) (Sum.inr ()) a.Writes]
    refine iter_list0 (xs := a.Writes) (fun i (_ : Unit) => (i : Int)) _ _ (fun i _ w hw => ?_) (fun _ => ?_) () (fuel_gt h)
    · have hi := at_of hw
      simp only [law16_Light_s0, law16_Light_s0k, lt_dec hi, inR_nat hi, Int.toNat_natCast, hw, cond_true, some_bind, wi64_succ (Nat.lt_trans hi h)]
      cases decide ((w.B.length : Int) > 40) <;> rfl
    · simp only [law16_Light_s0, law16_Light_s0k, ge_dec, cond_false]
  unfold law16_Light law16_Light_k
  rw [hl, some_bind]
  cases a.Writes.all (fun w => !(decide ((w.B.length : Int) > 40))) with
  | false => exact ⟨_, rfl, fun h => by cases h⟩
  | true =>
    by_cases h1 : (a.Writes.length : Int) ≤ 8
    · by_cases h2 : (a.Name.length : Int) ≤ 40
      · exact ⟨true, by simp only [cond_true, alt_inr]; rw [decide_eq_true h1, decide_eq_true h2]; rfl, fun _ => ⟨by omega, by omega⟩⟩
      · exact ⟨false, by simp only [cond_true, alt_inr]; rw [decide_eq_true h1, decide_eq_false h2]; rfl, fun h => by cases h⟩
    · exact ⟨false, by simp only [cond_true, alt_inr]; rw [decide_eq_false h1]; rfl, fun h => by cases h⟩

theorem all_loop (b : List UInt8) (x0 x1 : TAsk) (y0 y1 : TTell) (o0 : TAsk) (o1 : TTell) (o2 : Ttenancymade_Picks) (h0 : x0.Name.length < 4294967296) (h0' : x0.Writes.length < 4294967296) (h1 : x1.Name.length < 4294967296) (h1' : x1.Writes.length < 4294967296) :
    law16_MsgAll_l0 fuel b [x0, x1] [y0, y1] o0 o1 o2 0 = some (.inr ()) := by
  have s0 : law16_MsgAll_s0 fuel b [x0, x1] [y0, y1] o0 o1 o2 0 = some (.inl 1) := by
    have d1 : decide ((0 : Int) < 2) = true := rfl
    have d2 : inR 0 [x0, x1].length = true := rfl
    have d3 : inR 0 [y0, y1].length = true := rfl
    have d4 : [x0, x1][(0 : Int).toNat]? = some x0 := rfl
    have d5 : [x0, x1][0]? = some x0 := rfl
    have d6 : [y0, y1][(0 : Int).toNat]? = some y0 := rfl
    have d7 : wi64 (0 + 1) = 1 := wi64_of (by omega) (by omega)
    simp only [law16_MsgAll_s0, law16_MsgAll_s0k, d1, d2, d3, d4, d5, d6, cond_true, some_bind, msg_MayAsk_ok x0 h0 h0', ref13_MayAsk_ok x0 h0 h0', msg_PutAsk_ok x0 h0 h0', ref13_PutAsk_ok x0 h0 h0', msg_SameAsk_ok x0 _ h0', ref13_SameAsk_ok x0 _ h0', MayTell_eq, msg_PutTell_ok, ref13_PutTell_ok, beq_self_eq_true, Bool.not_true, cond_false, d7]
  have s1 : law16_MsgAll_s0 fuel b [x0, x1] [y0, y1] o0 o1 o2 1 = some (.inl 2) := by
    have d1 : decide ((1 : Int) < 2) = true := rfl
    have d2 : inR 1 [x0, x1].length = true := rfl
    have d2' : inR 0 [x0, x1].length = true := rfl
    have d3 : inR 1 [y0, y1].length = true := rfl
    have d4 : [x0, x1][(1 : Int).toNat]? = some x1 := rfl
    have d5 : [x0, x1][0]? = some x0 := rfl
    have d6 : [y0, y1][(1 : Int).toNat]? = some y1 := rfl
    have d7 : wi64 (1 + 1) = 2 := wi64_of (by omega) (by omega)
    simp only [law16_MsgAll_s0, law16_MsgAll_s0k, d1, d2, d2', d3, d4, d5, d6, cond_true, some_bind, msg_MayAsk_ok x1 h1 h1', ref13_MayAsk_ok x1 h1 h1', msg_PutAsk_ok x1 h1 h1', ref13_PutAsk_ok x1 h1 h1', msg_SameAsk_ok x0 _ h0', ref13_SameAsk_ok x0 _ h0', MayTell_eq, msg_PutTell_ok, ref13_PutTell_ok, beq_self_eq_true, Bool.not_true, cond_false, d7]
  have s2 : law16_MsgAll_s0 fuel b [x0, x1] [y0, y1] o0 o1 o2 2 = some (.inr (.inr ())) := rfl
  unfold law16_MsgAll_l0
  obtain ⟨n, hn⟩ : ∃ n, fuel = n + 3 := ⟨4294967293, by rw [fuel_eq]⟩
  have it : ∀ st : Int → Option (Int ⊕ (Unit ⊕ Unit)), st 0 = some (.inl 1) → st 1 = some (.inl 2) → st 2 = some (.inr (.inr ())) → iter st fuel 0 = some (.inr ()) := by
    intro st a0 a1 a2
    rw [hn, iter_succ, a0, some_bind, alt_inl, iter_succ, a1, some_bind, alt_inl, iter_succ, a2]
    rfl
  exact it _ s0 s1 s2

theorem law16_MsgAll_ok (wild : TAsk) (odd : TTell) (picks b : List UInt8) (hn : wild.Name.length ≤ 1048576) (hw : wild.Writes.length ≤ 1048576) (hp : picks.length ≤ 1048576) (hb : b.length ≤ 1048576) : law16_MsgAll fuel wild odd picks b = some true := by
  unfold law16_MsgAll law16_MsgAll_k
  obtain ⟨r, e, hr⟩ := light_ok wild (by omega)
  rw [law16_begun_ok, some_bind, e, some_bind]
  simp only [Bool.not_true, cond_false]
  cases r with
  | false => rfl
  | true =>
    obtain ⟨l1, l2⟩ := hr rfl
    simp only [Bool.not_true, cond_false]
    by_cases h1 : (odd.Body.length : Int) > 60
    · rw [decide_eq_true h1]; rfl
    · by_cases h2 : (picks.length : Int) > 40
      · rw [decide_eq_false h1, decide_eq_true h2]; rfl
      · by_cases h3 : (b.length : Int) > 90
        · rw [decide_eq_false h1, decide_eq_false h2, decide_eq_true h3]; rfl
        · rw [decide_eq_false h1, decide_eq_false h2, decide_eq_false h3]
          obtain ⟨x, e1, g1, p1⟩ := made_Ask_ok (made_Made picks) (made_ok picks (by omega))
          obtain ⟨y, e2, g2, _⟩ := made_Tell_ok x.2 p1
          obtain ⟨_, _, _, _, h5, _, _, h8, h9⟩ := mayAsk_of g1
          have hbl : b.length ≤ lim := by rw [lim_eq]; omega
          simp only [cond_false, e1, e2, some_bind]
          rw [all_loop _ _ _ _ _ _ _ _ (by omega) (by omega) (by omega) (by omega), some_bind, alt_inr, msg_TakeAsk_ok b hbl, some_bind, ref13_TakeAsk_ok b hbl, some_bind, msg_TakeTell_ok b hbl, some_bind, ref13_TakeTell_ok b hbl, some_bind, beq_self_eq_true, beq_self_eq_true, (tell_eqb _ _).2 rfl]
          simp only [cond_true]
          have hwl : (takeAsk b).1.Writes.length < 4294967296 := by
            unfold takeAsk
            cases hpa : pAsk b with
            | none => simp [noAsk]
            | some p =>
              obtain ⟨z, r⟩ := p
              have := (pAsk_parts hpa).2.1
              simp only []
              cases putAsk z == b
              · simp [noAsk]
              · show z.Writes.length < _; omega
          rw [ref13_SameAsk_ok _ _ hwl, some_bind, sameAsk_refl, msg_MayAsk_ok _ (by omega) (by omega), some_bind, g1, g2]
          rfl
end Go.Proofs.Ytphcaobgkegbaaa.N

set_option linter.unusedVariables false
set_option maxRecDepth 100000
namespace Go.Proofs.Ytphcaobgkegbaaa
open Go Go.ChangeShapes Go.WideShapes Go.ChangeAt Go.RowKit
namespace Q3
open Go.Proofs.Ytphcaobgkegbaaa.D Go.Proofs.Ytphcaobgkegbaaa.M

theorem law (xs : List (DVal E.T)) (h : ArgsOk E 1048576 [(.named 1), (.named 2), (.slice (.int .u8)), (.slice (.int .u8))] xs) : (B3 xs []).get = some (.ret [.val .bool true], []) := by
  match xs, h with
  | [_, _, _, _], .cons _ _ x0 _ h0 (.cons _ _ x1 _ h1 (.cons _ _ x2 _ h2 (.cons _ _ x3 _ h3 .nil))) => exact (F3 x0 x1 x2 x3).trans ((N.law16_MsgAll_bind N.fuel _ x0 x1 x2 x3).trans (by rw [N.law16_MsgAll_ok x0 x1 x2 x3 (h0 12).2.2.2.2.1 (h0 12).2.2.2.2.2.2.2.1.1 (h2 12).1 (h3 12).1]; rfl))

theorem contract (H : Type) (enc : TypeId × Value → H) (W : World) (base : Nat) (args : Array Value) (ds gs : List (DataW H)) (before : List MemPlace)
    (hval : ∀ (j : Nat) t v, Try.f3.params[j]? = some t → args[j]? = some v → Value.okWide Try.prog W .any base t v)
    (hW : DataW.Whole enc Try.prog Try.f3.params.toList Rows.msgAllSpec.vars false W args.toList ds gs before) (hk : ∀ d ∈ ds, Rows.uptoBulk d ≤ 1048576) :
    Calls Try.prog 3 args W fun e W' => ∃ v, e = .returned v ∧ Rows.msgAllSpec.post enc Try.prog Try.f3 false true false false W args v W' :=
  law_contract sound tl laid full meas bl (fn := Try.f3) (tb := 4) rfl Try.underlying4 (ps := [(.named 1), (.named 2), (.slice (.int .u8)), (.slice (.int .u8))]) rfl
    (by
      have h : (Try.f3.params.toList.all fun t => Try.prog.readableRec t && decide (t < Try.prog.types.size)) = true := by kernel_rfl
      intro t ht
      have := List.all_eq_true.1 h t ht
      simpa using this) rfl
    (fun ds hd => by
      match ds, hd with
      | [x0, x1, x2, x3], _ => rfl)
    B3_ok law W base args ds gs before hval hW hk

theorem lifted (os : Os) (started : os.Started) (H : Type) (enc : TypeId × Value → H) (F : Stop.Interp) :
    ReturnsInHanded {} Try.checked os 3 .any ((Rows.OpenSpec.upto Rows.msgAllSpec).pre6 enc Try.prog Try.f3 Rows.msgAllUptoRow.domain false) (((Rows.OpenSpec.upto Rows.msgAllSpec).at F).post enc Try.prog Try.f3 false true false false) := by
  refine returnsInHanded_of_cond (C := Try.checked) (s := Rows.OpenSpec.upto Rows.msgAllSpec) (k := Rows.uptoSmall) rfl own started (by kernel_rfl) Try.func3
    (OpenSpec.witness (enc := enc) (C := Try.checked) (s := Rows.OpenSpec.upto Rows.msgAllSpec) (k := Rows.uptoSmall) rfl false ⟨#[], #[.agg #[.int .i64 0, .int .i64 0, .int .i64 0, .int .i64 0, .string ⟨#[]⟩, .int .i64 0, .int .i64 0, .slice none 0 0], .agg #[.int .i64 0, .int .i64 0, .int .i64 0, .int .i64 0, .int .i64 0, .int .i64 0, .int .i64 0, .int .i64 0, .string ⟨#[]⟩], .slice none 0 0, .slice none 0 0], []⟩ 8 (by kernel_rfl) (by kernel_rfl) (by kernel_rfl)
      (x := ([.agg [.lit (.int .i64 0), .lit (.int .i64 0), .lit (.int .i64 0), .lit (.int .i64 0), .lit (.string []), .lit (.int .i64 0), .lit (.int .i64 0), .nil], .agg [.lit (.int .i64 0), .lit (.int .i64 0), .lit (.int .i64 0), .lit (.int .i64 0), .lit (.int .i64 0), .lit (.int .i64 0), .lit (.int .i64 0), .lit (.int .i64 0), .lit (.string [])], .nil, .nil], [], [])) (by kernel_rfl) rfl (by kernel_rfl)) ?_
  intro W base args ds gs before hval hW _ hk _
  have hgs : gs = [] := by
    obtain ⟨p, q, hA, hV, _⟩ := hW
    cases gs with
    | nil => rfl
    | cons g gs => exact hV.elim
  subst hgs
  exact contract H enc W base args ds [] before hval hW (small hk)

theorem over : Rows.msgAllUptoRow.holds Try.pinned (Rows.OpenSpec.upto Rows.msgAllSpec) :=
  OpenClaim.holds_of_cond 3 Try.f3 rfl rfl rfl rfl rfl rfl rfl ⟨rfl, rfl, rfl, rfl, rfl⟩ rfl rfl rfl rfl rfl (by kernel_rfl) Try.func3 (by kernel_rfl)
    (of_decide_eq_true (by kernel_rfl)) (by unfold Func.isWrapper; first | (rw [if_pos (by decide +kernel)]; kernel_rfl) | (rw [if_neg (by decide +kernel)]; exact ⟨rfl, rfl⟩))
    (fun os started H enc _ F => lifted os started H enc F)
end Q3
theorem msgAll_holds : Rows.MsgAllUptoSaid := Q3.over
end Go.Proofs.Ytphcaobgkegbaaa
