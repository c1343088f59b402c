/- Bodies: what they leave. Bodies with a deferred call; functions. An environment is sound where each row of its table is. Rows: what is read of arguments is data, of bounded size. Loops in closed form. -/
import Derived.Test.YtbdkijiaojbmgaaBase4
import Derived.Recover
import Derived.Orders
import Derived.Deep.Slices
import Derived.OpenShut
import Derived.Carry
import Derived.JoinedCond
import Derived.ReadAgain
set_option linter.unusedVariables false
set_option linter.unusedSimpArgs false
namespace Go.Proofs.Ytbdkijiaojbmgaa.D
open Go

section
variable {P : Program} {E : Env} {w w' w'' : World} {σ σ' σ'' : Sg} {st st' st'' : St E.T} {M : Nat → Prop}
variable {a : Act} {fr fr1 : Fr E.T}

/-- Results as one value. -/
def oneOf : List Value → Value
  | [u] => u
  | us => .tuple us.toArray

theorem ptr_addr {x : DVal E.T} {u : Value} {t : TypeId} {v : DVal E.T} (h : (dload E st t x).get = some v) (hx : VRep E σ st w M x u) : ∃ ad, u = .pointer (some ad) := by
  cases x with
  | ptr o p =>
    cases hx with
    | data t d cs hv => cases hv
    | ptr o p b hb hl => exact ⟨_, rfl⟩
  | rptr t' y =>
    cases hx with
    | data t d cs hv => cases hv
    | rptr t x a cs hc hm => exact ⟨a, rfl⟩
  | _ => cases h

theorem dresults_ok (HS : Sound P E) (hst : StRep E σ st w) (hfr : FrRep E σ st w fr a) : ∀ (rs : List ResultVar) {vs : List (DVal E.T)}, (dresults E fr st rs).get = some vs →
    ∃ us, (∀ f : ResultVar → Sem Value, (∀ t, f (.tmp t) = pure (a.tmps.getD t undef)) → (∀ b t, f (.cell b t) = (do loadVar t (← asAddr (a.tmps.getD b undef)))) → (rs.mapM f).run P w = .ok us w) ∧ VReps E σ st w (MB σ st) vs us
  | [], vs, h => by
    cases h
    exact ⟨[], fun f _ _ => by simp, .nil⟩
  | r :: rs, vs, h => by
    simp only [dresults] at h
    obtain ⟨v, hv, h1⟩ := Tree.get_bind_some h
    obtain ⟨vs', hvs, h2⟩ := Tree.get_bind_some h1
    cases h2
    obtain ⟨us, hus, hr⟩ := dresults_ok HS hst hfr rs hvs
    cases r with
    | tmp t =>
      cases hv
      exact ⟨a.eval (.tmp t) :: us, fun f h1 h2 => by simp only [List.mapM_cons, h1, Sem.run_bind, Sem.run_pure, Result.andThen_ok, hus f h1 h2]; rfl, .cons _ _ _ _ (dget_ok hfr (.tmp t)) hr⟩
    | cell b t =>
      simp only [dresult] at hv
      have hx := dget_ok hfr (.tmp b)
      obtain ⟨ad, had⟩ := ptr_addr hv hx
      obtain ⟨y, hy, hvy⟩ := dload_ok HS hst hv hx
      rw [had] at hy
      have hl : (loadVar t ad).run P w = .ok y w := by
        unfold Instr.loadAt Instr.sureAddr at hy
        simpa using hy
      have ha : a.tmps.getD b undef = .pointer (some ad) := had
      have hasA : (asAddr (.pointer (some ad))).run P w = .ok ad w := rfl
      exact ⟨y :: us, fun f h1 h2 => by simp only [List.mapM_cons, h2, Sem.run_bind, ha, hasA, Sem.run_pure, Result.andThen_ok, hl, hus f h1 h2], .cons _ _ _ _ hvy hr⟩

theorem results_ok (HS : Sound P E) (hst : StRep E σ st w) (hfr : FrRep E σ st w fr a) {fn : Func} {vs : List (DVal E.T)} (h : (dresults E fr st fn.results.toList).get = some vs) :
    ∃ us, (results fn a.tmps).run P w = .ok (oneOf us) w ∧ VReps E σ st w (MB σ st) vs us := by
  obtain ⟨us, hus, hr⟩ := dresults_ok HS hst hfr fn.results.toList h
  refine ⟨us, ?_, hr⟩
  unfold results
  rw [Sem.run_bind, Array.mapM_eq_mapM_toList, Sem.run_map, hus]
  · simp only [Result.andThen_ok, Sem.run_pure]
    congr 1
    match us with
    | [] => rfl
    | [u] => rfl
    | u :: u' :: r => simp; rfl
  · intro t; rfl
  · intro b t; rfl

theorem resVal_ok {vs : List (DVal E.T)} {us : List Value} (h : VReps E σ st w M vs us) : VRep E σ st w M (resVal E vs) (oneOf us) := by
  cases h with
  | nil => exact VRep.tup [] [] .nil
  | cons v r u us h h' =>
    cases h' with
    | nil => exact h
    | cons v' r' u' us' h1 h2 => exact VRep.tup _ _ (.cons _ _ _ _ h (.cons _ _ _ _ h1 h2))

theorem asData_ok (ok : EnvOk E) (hst : StRep E σ st w) (hM : ∀ b, M b → MB σ st b) : ∀ (ts : List TypeId) {vs ws : List (DVal E.T)} {us : List Value}, asData E st ts vs = some ws → VReps E σ st w (MB σ st) vs us →
    (∀ k ∈ refsL vs, ∀ l e xs b, nth? st k = some (.arr l e xs) → blk (σ k) = some b → ¬ M b) → VReps E σ st w M ws us
  | [], [], ws, us, h, hv, _ => by cases h; cases hv; exact .nil
  | t :: ts, v :: vs, ws, us, h, hv, hr => by
    cases hv with
    | cons v vs u us hv hvs =>
      simp only [asData] at h
      split at h
      · rename_i ty hk
        split at h
        · rename_i x hx
          split at h
          · rename_i r hr'
            cases h
            obtain ⟨cs, hvt, rfl⟩ := rep_data hx hv
            have hc := toData_ok ok hst hM depth (fun k hk => hr k (by simp [refsL, hk])) hx hvt
            exact .cons _ _ _ _ (.data ty _ cs (.val ty x cs hc)) (asData_ok ok hst hM ts hr' hvs (fun k hk => hr k (by simp [refsL, hk])))
          · cases h
        · cases h
      · cases h
      · split at h
        · split at h
          · rename_i r hr'
            cases h
            exact .cons _ _ _ _ (VRep.keep (Kept.weaken hM) hv (fun k _ => Same.refl k)) (asData_ok ok hst hM ts hr' hvs (fun k hk => hr k (by simp [refsL, hk])))
          · cases h
        · cases h
  | [], _ :: _, ws, us, h, _, _ => by simp [asData] at h
  | _ :: _, [], ws, us, h, _, _ => by simp [asData] at h

/-- How a frame that is left stands. -/
inductive PanRep (E : Env) (σ : Sg) (st : St E.T) (w : World) : Option (DVal E.T) → FrameMode → Prop where
  | none : PanRep E σ st w none .returning
  | some (v : DVal E.T) (u : Value) (h : VRep E σ st w (MB σ st) v u) : PanRep E σ st w (some v) (.panicking [{ v := u, recovered := false }])

theorem stRefs_freeze : ∀ (ks : List Nat) {st : St E.T}, ∀ n, stRefs E ((freeze E st ks).take n) = stRefs E (st.take n)
  | [], st, n => rfl
  | k :: r, st, n => by
    rw [freeze, stRefs_freeze r]
    split
    · rename_i lv e xs hk
      have : ∀ (l : St E.T) (k n : Nat) (h : nth? l k = some (.arr lv e xs)), stRefs E ((upd l k (.arr .froz e xs)).take n) = stRefs E (l.take n) := by
        intro l
        induction l with
        | nil => intro k n h; cases h
        | cons o l ih =>
          intro k n h
          cases n with
          | zero => rfl
          | succ n =>
            cases k with
            | zero =>
              simp only [nth?, Option.some.injEq] at h
              subst h
              simp [upd, stRefs, objRefs]
            | succ k =>
              have := ih k n h
              simp only [upd, List.take_succ_cons, stRefs, List.flatMap_cons] at this ⊢
              rw [this]
      exact this st k n hk
    · rfl

theorem blt_all {l : List Nat} {n : Nat} (h : (l.all fun k => Nat.blt k n) = true) : ∀ k ∈ l, k < n := by
  intro k hk
  rw [List.all_eq_true] at h
  have := h k hk
  rwa [Nat.blt_eq] at this

/-- The end of a body without deferred calls. -/
theorem ending_ok (HS : Sound P E) {keep : Bool} {fn : Func} {σ0 : Sg} {st0 : St E.T} {w0 : World} (m : Mf σ0 σ st0 st w0 w) (hfr : FrRep E σ st w fr a) {pan : Option (DVal E.T)} {u : FrameMode} (hpan : PanRep E σ st w pan u) {r : Res E.T} {st' : St E.T}
    (h : (ending E keep st0.length fn fr st pan).get = some (r, st')) : Leaves P fn a.tmps (fun e w' => Back E σ0 st0 st' w0 r e w') [] u w := by
  have hst := m.rep
  unfold ending at h
  cases hpan with
  | some v u hv =>
    simp only at h
    cases keep with
    | true =>
      cases h
      exact ⟨σ, m, u, rfl, hv⟩
    | false =>
      obtain ⟨hb, h⟩ := Tree.get_need h
      cases h
      have hlt := blt_all hb
      have hr := take_rep hst (fun k hk => hlt k (List.mem_append_left _ hk))
      exact ⟨σ, Mf.take m hr, u, rfl, VRep.keep (Kept.weaken fun b hb => take_MB hb) hv (fun k hk => take_same (hlt k (List.mem_append_right _ hk)))⟩
  | none =>
    simp only at h
    obtain ⟨vs, hvs, h⟩ := Tree.get_bind_some h
    obtain ⟨us, hus, hr⟩ := results_ok HS hst hfr hvs
    cases keep with
    | true =>
      cases h
      exact ⟨_, hus, σ, m, resVal_ok hr⟩
    | false =>
      simp only at h
      split at h
      · rename_i ws hws
        obtain ⟨hb, h⟩ := Tree.get_need h
        cases h
        have hlt := blt_all hb
        obtain ⟨mf, _⟩ := freeze_ok (live E st (refsL vs)) hst
        have hM : ∀ b, MB σ (freeze E st (live E st (refsL vs))) b → MB σ st b := fun b hb => mf.keep.may b (MB_lt mf.rep hb) hb
        have hd := asData_ok HS.toEnvOk hst hM fn.resultTypes.toList hws hr (fun k hk l e xs b hh hb => rows_calm hst hk hh hb)
        have hd2 : VReps E σ (freeze E st (live E st (refsL vs))) w (MB σ (freeze E st (live E st (refsL vs)))) ws us := VReps.keep (Kept.weaken fun _ h => h) hd (fun k hk => mf.same k (VReps.refs hd k hk))
        have hrep := take_rep (n := st0.length) mf.rep (fun k hk => hlt k (List.mem_append_left _ (by rw [stRefs_freeze] at hk; exact hk)))
        have m2 := Mf.take (m.trans mf.f) hrep
        exact ⟨_, hus, σ, m2, resVal_ok (VReps.keep (M' := MB σ ((freeze E st (live E st (refsL vs))).take st0.length)) (Kept.weaken fun b hb => take_MB hb) hd2 (fun k hk => take_same (hlt k (List.mem_append_right _ hk))))⟩
      · cases h

/-- What is known of a deferred function. -/
def DSpecOk (P : Program) (E : Env) (g : FuncId) (F : DSpec E) : Prop :=
  Enters P g ∧ ∀ {σ : Sg} {st : St E.T} {w : World} {ds : List (DVal E.T)} {us : List Value} {pan : Option (DVal E.T)} {u : FrameMode} {b : Bool} {st' : St E.T}, StRep E σ st w → VReps E σ st w (MB σ st) ds us → PanRep E σ st w pan u → (F ds st pan).get = some (b, st') →
    CallsD P g us.toArray u w fun e u' w' => (∃ v, e = .returned v) ∧ ∃ σ', Mf σ σ' st st' w w' ∧ ((b = true ∧ settle u' = .returning) ∨ (b = false ∧ u' = u))

theorem settle_pan {pan : Option (DVal E.T)} {u : FrameMode} (h : PanRep E σ st w pan u) : settle u = u := by
  cases h with
  | none => rfl
  | some v u h => rfl

end
end Go.Proofs.Ytbdkijiaojbmgaa.D

set_option linter.unusedVariables false
set_option linter.unusedSimpArgs false
namespace Go.Proofs.Ytbdkijiaojbmgaa.D
open Go

section
variable {P : Program} {E : Env} {w w' w'' : World} {σ σ' σ'' : Sg} {st st' st'' : St E.T} {M : Nat → Prop}
variable {a : Act} {fr fr1 : Fr E.T}

theorem PanRep.map {pan : Option (DVal E.T)} {u : FrameMode} (h : PanRep E σ st w pan u) (hv : ∀ v u, pan = Option.some v → VRep E σ st w (MB σ st) v u → VRep E σ' st' w' (MB σ' st') v u) : PanRep E σ' st' w' pan u := by
  cases h with
  | none => exact .none
  | some v u h => exact .some v u (hv v u rfl h)

theorem leave_ok (HS : Sound P E) {SD : FuncId → Option (DSpec E)} (HD : ∀ g F, SD g = some F → DSpecOk P E g F) {keep : Bool} {fn : Func} {σ0 : Sg} {st0 : St E.T} {w0 : World} (m : Mf σ0 σ st0 st w0 w) (hfr : FrRep E σ st w fr a) {pan : Option (DVal E.T)} {u : FrameMode} (hpan : PanRep E σ st w pan u)
    (hpr : ∀ v, pan = some v → refs v = []) {r : Res E.T} {st' : St E.T} (h : (leave E SD keep st0.length fn fr st pan).get = some (r, st')) :
    Leaves P fn a.tmps (fun e w' => Back E σ0 st0 st' w0 r e w') a.defers u w := by
  have hst := m.rep
  unfold leave at h
  have hd := hfr.d
  split at h
  · rename_i hn
    rw [hn] at hd
    generalize hdd : a.defers = dd at hd
    cases hd
    exact ending_ok HS m hfr hpan h
  · rename_i g as hn
    rw [hn] at hd
    generalize hdd : a.defers = dd at hd
    cases hd with
    | cons g as args cap ds dds has hds =>
      cases hds
      split at h
      · rename_i F hF
        obtain ⟨hent, hcall⟩ := HD g F hF
        simp only at h
        generalize hbs : stRefs E st ++ refsL as = bs at h
        generalize hfs : movers E st (frRefs E fr) = fs at h
        generalize hhid : (fs.filter fun k => !(memB bs k)) = hid at h
        obtain ⟨p, hp1, h⟩ := Tree.get_bind_some h
        obtain ⟨b, s1⟩ := p
        have hok : HidOk E st hid := by
          refine ⟨fun k hk => ?_, fun k hk => ?_⟩
          · rw [← hhid] at hk
            have := (mem_filter_out.1 hk).1
            rw [← hfs] at this
            exact (mov_mem.1 this).2
          · rw [← hhid] at hk
            have := (mem_filter_out.1 hk).2
            rw [← hbs] at this
            exact fun h => this (List.mem_append_left _ h)
        have hdr : ∀ k ∈ refsL as, k ∉ hid := by
          intro k hk hkh
          rw [← hhid] at hkh
          have := (mem_filter_out.1 hkh).2
          rw [← hbs] at this
          exact this (List.mem_append_right _ hk)
        have has' : VReps E (Hidden σ hid) (hide E hid st) w (MB (Hidden σ hid) (hide E hid st)) as (args ++ cap).toList := VReps.keep (Kept.weaken fun b hb => hide_MB hok hb) has (fun k hk => hide_same hok (hdr k hk))
        have hpan' : PanRep E (Hidden σ hid) (hide E hid st) w pan u := hpan.map (fun v u hv h => VRep.keep (Kept.weaken fun b hb => hide_MB hok hb) h (fun k hk => by rw [hpr v hv] at hk; cases hk))
        refine leaves_cons (f := g) (args := args ++ cap) (by cases hpan <;> exact fun h => by cases h) (by simpa [invoke] using hent (args ++ cap) w) ?_
        have hc := hcall (hide_rep hst hok) has' hpan' hp1
        rw [show ((args ++ cap).toList.toArray) = args ++ cap by simp] at hc
        refine CallsD.mono hc (fun e u' w' hb => ?_)
        obtain ⟨⟨v, rfl⟩, σ', m1, hor⟩ := hb
        obtain ⟨σ'', m', hv, hsame⟩ := unhide_ok hst hok m1
        have hfr' : FrRep E σ'' (unhide E st hid s1) w' (killFr E st (fs.filter (memB bs)) fr) a := by
          have hk := frRep_kill hst (fs.filter (memB bs)) hfr
          refine frRep_same hk m'.keep.kept (fun k hk' => ?_)
          obtain ⟨h1, h2⟩ := frRefs_kill _ hk'
          refine hsame k (frRefs_lt hfr k h1) ?_
          by_cases hl : ∃ e xs, nth? st k = some (.arr .live e xs)
          · left
            have hkf : k ∈ fs := by rw [← hfs]; exact mov_mem.2 ⟨h1, hl⟩
            rw [← hhid]
            exact mem_filter_out.2 ⟨hkf, fun hb => h2 (mem_filter_in.2 ⟨hkf, hb⟩)⟩
          · right
            exact fun e xs hh => hl ⟨e, xs, hh⟩
        have hfr2 : FrRep E σ'' (unhide E st hid s1) w' { killFr E st (fs.filter (memB bs)) fr with d := [] } { tmps := a.tmps, defers := [] } := ⟨hfr'.s, .nil⟩
        have hpan2 : PanRep E σ'' (unhide E st hid s1) w' pan u := hpan.map (fun v u hv h => VRep.keep m'.keep.kept h (fun k hk => by rw [hpr v hv] at hk; cases hk))
        rcases hor with ⟨rfl, hs⟩ | ⟨rfl, hs⟩
        · show Leaves P fn a.tmps _ [] (settle u') w'
          rw [hs]
          exact ending_ok HS (m.trans m') (a := { tmps := a.tmps, defers := [] }) hfr2 .none h
        · show Leaves P fn a.tmps _ [] (settle u') w'
          rw [hs, settle_pan hpan]
          exact ending_ok HS (m.trans m') (a := { tmps := a.tmps, defers := [] }) hfr2 hpan2 h
      · cases h
  · cases h

theorem VReps.replicate (n : Nat) : VReps E σ st w M (List.replicate n .undef) (List.replicate n undef) := by
  induction n with
  | zero => exact .nil
  | succ n ih => exact .cons _ _ _ _ (.undef _) ih

theorem frame_ok {fn : Func} {ds : List (DVal E.T)} {us : List Value} (h : VReps E σ st w (MB σ st) ds us) : FrRep E σ st w (frame E fn ds) { tmps := us.toArray ++ Array.replicate (fn.ntmps - us.toArray.size) undef, defers := [] } := by
  refine ⟨?_, .nil⟩
  have := VReps.append h (VReps.replicate (E := E) (σ := σ) (st := st) (w := w) (M := MB σ st) (fn.ntmps - ds.length))
  simpa [frame, VReps.length h] using this

/-- A function is what its body comes to. -/
theorem dbody_ok (HS : Sound P E) (hmix : P.follows .mixedOrders = true) {S : FuncId → Option (Spec E)} (HC : CallOk P E S) {SD : FuncId → Option (DSpec E)} (HD : ∀ g F, SD g = some F → DSpecOk P E g F) {L : Nat → LoopInfo E} {N : Nat} {keep : Bool} {f : FuncId} {fn : Func} {c : Code}
    (hf : P.funcs[f]? = some fn) (hb : fn.body = some c) (hL : LoopsOk S L N 0 c) : FnOk P E f (dbody E S SD L N keep fn) := by
  intro σ st w ds us r st' hst hds h
  unfold dbody at h
  rw [hb] at h
  simp only at h
  obtain ⟨⟨e, fr, st1⟩, h1, h2⟩ := Tree.get_bind_some h
  refine calls_of_wp_defers hf hb (dcode_ok HS hmix HC c 0 hL hst (frame_ok hds) h1 (fun σ' w' a' x m hfr hx => ?_))
  cases hx with
  | normal => exact leave_ok HS HD m hfr .none (fun v h => by cases h) h2
  | exit id => cases h2
  | ret => exact leave_ok HS HD m hfr .none (fun v h => by cases h) h2
  | panic v u hv =>
    obtain ⟨hn, h2⟩ := Tree.get_need h2
    exact leave_ok HS HD m hfr (.some v u hv) (fun v' h => by cases h; exact List.isEmpty_iff.1 hn) h2

theorem pure_ok {f : FuncId} {F : List (DVal E.T) → St E.T → Tree (Res E.T × St E.T)} (h : FnOk P E f F) {G : List (DVal E.T) → Tree (Res E.T)} (hG : ∀ ds r, (G ds).get = some r → (F ds []).get = some (r, [])) : PureOk P E f G :=
  fun hst hds hr => h hst hds (hG _ _ hr)

/-! ### Deferred functions -/
theorem opsS_of {ops : Array Oper} {Q : Exit → Act → List Frame → World → Prop} {cs : List Frame} (hQ : ∀ a w, ¬ Q .outgrown a cs w) : ∀ (l : List Nat) (a : Act) (w : World), wpOps P ops (fun e a w => Q e a cs w) l a w → wpOpsS P ops Q l a cs w
  | [], a, w, h => h
  | i :: r, a, w, h => by
    simp only [wpOps] at h
    simp only [wpOpsS]
    split at h
    · rename_i hi; rw [hi]; exact opsS_of hQ r a w h
    · rename_i o hi
      rw [hi]
      simp only
      split at h
      · rename_i hw
        rw [if_pos hw]
        have h := h.resolve_right (fun ⟨_, a, w, h⟩ => hQ a w h)
        have h' : o.wp P a w (fun a' w' => wpOpsS P ops Q r a' cs w') (fun e a w => Q e a cs w) := Oper.wp_mono (fun a w h => opsS_of hQ r a w h) h
        unfold Oper.wp at h'
        split
        · rename_i w' hrec
          rw [hrec] at h'
          exact h'.elim
        · exact h'
      · rename_i hw
        rw [if_neg hw]
        exact opsS_of hQ r _ w h

theorem dbodyD_ok (HS : Sound P E) (hmix : P.follows .mixedOrders = true) {S : FuncId → Option (Spec E)} (HC : CallOk P E S) {L : Nat → LoopInfo E} {N : Nat} {f : FuncId} {fn : Func} {c0 : Code}
    (hf : P.funcs[f]? = some fn) (hb : fn.body = some c0) (hL : LoopsOk S L N 0 c0) (hent : Enters P f) : DSpecOk P E f (dbodyD E S L N fn) := by
  refine ⟨hent, ?_⟩
  intro σ st w ds us pan u b st' hst hds hpan h
  unfold dbodyD at h
  obtain ⟨hres, h⟩ := Tree.get_need h
  have hres' : fn.results = #[] := by
    rw [List.isEmpty_iff] at hres
    exact Array.toList_eq_nil_iff.1 hres
  rw [hb] at h
  split at h
  · rename_i id ops c hc0
    cases hc0
    split at h
    · rename_i o r hops
      split at h
      · rename_i args ats hop hg
        obtain ⟨out, h1, h2⟩ := Tree.get_bind_some h
        cases out with
        | panic v fr st => cases h2
        | done fr1 st1 =>
          obtain ⟨⟨e, fr2, st2⟩, h3, h4⟩ := Tree.get_bind_some h2
          -- what is behind
          have hfr0 := frame_ok (fn := fn) hds
          have hi0 : ops[0]? = some o := by rw [← Array.getElem?_toList, hops]; rfl
          refine callsD_of_wpS hf hb (fun c₀ cs hm => ?_)
          -- the frame behind the first operation
          obtain ⟨uv, cs', hrec, hcs, hfr1, hor⟩ : ∃ (uv : Value) (u' : FrameMode), (match recoverD (c₀ :: cs) with | some (v, cs') => v = uv ∧ cs' = { c₀ with mode := u' } :: cs | none => uv = .nilIface ∧ (c₀ :: cs) = { c₀ with mode := u' } :: cs) ∧ True ∧
              FrRep E σ st w (put E (frame E fn ds) o.dst (panVal E pan)) (({ tmps := us.toArray ++ Array.replicate (fn.ntmps - us.toArray.size) undef, defers := [] } : Act).put o.dst uv) ∧
              ((panB E pan = true ∧ settle u' = .returning) ∨ (panB E pan = false ∧ u' = u)) := by
            cases hpan with
            | none =>
              refine ⟨.nilIface, .returning, ?_, trivial, put_ok hfr0 o.dst .nilifc, .inr ⟨rfl, rfl⟩⟩
              have : recoverD (c₀ :: cs) = none := by simp [recoverD, hm]
              rw [this]
              refine ⟨rfl, ?_⟩
              rw [← hm]
            | some v uv hv =>
              refine ⟨uv, .panicking [{ v := uv, recovered := true }], ?_, trivial, put_ok hfr0 o.dst hv, .inl ⟨rfl, rfl⟩⟩
              have : recoverD (c₀ :: cs) = some (uv, { c₀ with mode := .panicking [{ v := uv, recovered := true }] } :: cs) := by simp [recoverD, hm]
              rw [this]
              exact ⟨rfl, rfl⟩
          let QQ : Exit → Act → List Frame → World → Prop := bodyPostS P fn c₀ cs (fun e u' w' => (∃ v, e = .returned v) ∧ ∃ σ', Mf σ σ' st st' w w' ∧ ((b = true ∧ settle u' = .returning) ∨ (b = false ∧ u' = u)))
          refine wpS_seq (Q := QQ) (wpS_region ?_)
          have hsz : ops.size = r.length + 1 := by rw [← Array.length_toList, hops]; rfl
          rw [hsz, List.range_eq_range', List.range'_succ]
          simp only [wpOpsS, hi0]
          rw [if_pos (by unfold Region.wanted; rw [hg])]
          have hrunR : (execOp ({ tmps := us.toArray ++ Array.replicate (fn.ntmps - us.toArray.size) undef, defers := [] } : Act).eval o).run P w = .ok .recover w := by
            unfold execOp
            simp only [hop, resolve, Sem.run_bind, Sem.run_pure, Result.andThen_ok, invoke, builtin]
          -- behind the first operation, whatever the callers are
          have rest : wpOpsS P ops (Exit.thenS (c.wpS P QQ) QQ) (List.range' 1 r.length) (({ tmps := us.toArray ++ Array.replicate (fn.ntmps - us.toArray.size) undef, defers := [] } : Act).put o.dst uv) ({ c₀ with mode := cs' } :: cs) w := by
            refine opsS_of (fun a w h => ?_) _ _ _ ?_
            · obtain ⟨u', ⟨v, hv⟩, _⟩ := h; cases hv
            · refine dops_ok HS HC r 1 (by rw [hops]; rfl) hst hfr1 h1 ?_
              intro σ1 w1 a1 m1 hfr1'
              show c.wpS P QQ a1 ({ c₀ with mode := cs' } :: cs) w1
              refine wpS_of_wp (dcode_ok HS hmix HC c 0 hL.2 m1.rep hfr1' h3 ?_)
              intro σ2 w2 a2 x m2 hfr2 hx
              have fin : ∀ (fr : Fr E.T) (st2' : St E.T), (finD E st.length pan fr st2').get = some (b, st') → Mf σ σ2 st st2' w w2 → FrRep E σ2 st2' w2 fr a2 →
                  a2.defers = [] ∧ ∃ u', ({ c₀ with mode := cs' } :: cs) = { c₀ with mode := u' } :: cs ∧ ∃ v, (results fn a2.tmps).run P w2 = .ok v w2 ∧ (∃ v', Ending.returned v = .returned v') ∧ ∃ σ', Mf σ σ' st st' w w2 ∧ ((b = true ∧ settle u' = .returning) ∨ (b = false ∧ u' = u)) := by
                intro fr st2' hfin mm hff
                unfold finD at hfin
                split at hfin
                · rename_i hfd
                  obtain ⟨hlt, hfin⟩ := Tree.get_need hfin
                  cases hfin
                  have hdd := hff.d
                  rw [hfd] at hdd
                  refine ⟨by generalize a2.defers = dd at hdd; cases hdd; rfl, cs', rfl, .tuple #[], by simp [results, hres'], ⟨_, rfl⟩, σ2, Mf.take mm (take_rep mm.rep (blt_all hlt)), hor⟩
                · cases hfin
              cases hx with
              | normal => exact fin fr2 st2 h4 (m1.trans m2) hfr2
              | ret => exact fin fr2 st2 h4 (m1.trans m2) hfr2
              | exit id => cases h4
              | panic v u hv => cases h4
          rw [hrunR]
          simp only
          cases hrd : recoverD (c₀ :: cs) with
          | none =>
            rw [hrd] at hrec
            obtain ⟨rfl, hcs2⟩ := hrec
            simp only
            rw [hcs2]
            exact rest
          | some p =>
            obtain ⟨v, cs2⟩ := p
            rw [hrd] at hrec
            obtain ⟨rfl, rfl⟩ := hrec
            exact rest
      · cases h
    · cases h
  · cases h
end
end Go.Proofs.Ytbdkijiaojbmgaa.D

set_option linter.unusedVariables false
set_option linter.unusedSimpArgs false
namespace Go.Proofs.Ytbdkijiaojbmgaa.D
open Go

def TkAt (P : Program) (E : Env) (t : TypeId) : TK → Prop
  | .data ty => TyM P E t ty
  | .ptr => (∃ e, P.underlying t = some (.pointer e)) ∧ ∃ i, P.info? t = some i ∧ i.size = 1 ∧ i.zero = some (.pointer none)
  | .func => (∃ a b c, P.underlying t = some (.func a b c)) ∧ ∃ i, P.info? t = some i ∧ i.size = 1 ∧ i.zero = some .nilFunc
  | .iface => (∃ m, P.underlying t = some (.interface m)) ∧ ∃ i, P.info? t = some i ∧ i.size = 1 ∧ i.zero = some .nilIface
  | .other => True

def TkAll (P : Program) (E : Env) : Nat → List TK → Prop
  | _, [] => True
  | i, k :: r => TkAt P E i k ∧ TkAll P E (i + 1) r

theorem tkAll_at {P : Program} {E : Env} : ∀ (l : List TK) (i : Nat), TkAll P E i l → ∀ (j : Nat), TkAt P E (i + j) (nth l j .other)
  | [], i, h, j => trivial
  | k :: r, i, h, 0 => h.1
  | k :: r, i, h, j + 1 => by
    have := tkAll_at r (i + 1) h.2 j
    rw [show i + (j + 1) = i + 1 + j by omega]
    exact this

theorem sound_of {P : Program} {E : Env} (ok : EnvOk E) (eqb : ∀ i x y, E.eqb i x y = eqHL E (E.fields i) (E.out i x) (E.out i y))
    (cmp : ∀ t, E.cmp t = true → P.eqGuardType P.depth t = false ∧ P.stoodInHeld t = false ∧ ∀ fs, P.underlying t = some (.struct fs) → ∀ f ∈ fs.toList, E.cmp f.type = true)
    (tbl : List TK) (htk : ∀ t, E.tk t = nth tbl t .other) (h : TkAll P E 0 tbl) : Sound P E := by
  have key : ∀ t, TkAt P E t (E.tk t) := by
    intro t
    have := tkAll_at tbl 0 h t
    rw [Nat.zero_add, ← htk t] at this
    exact this
  refine { toEnvOk := ok, eqb := eqb, cmp := cmp, data := ?_, ptr := ?_, func := ?_, iface := ?_ }
  · intro t ty ht; have := key t; rw [ht] at this; exact this
  · intro t ht; have := key t; rw [ht] at this; exact this
  · intro t ht; have := key t; rw [ht] at this; exact this
  · intro t ht; have := key t; rw [ht] at this; exact this

/-! ### Tables of what is known -/
def lookS {E : Env} : List (Nat × Spec E) → FuncId → Option (Spec E)
  | [], _ => none
  | p :: r, f => bif Nat.beq p.1 f then some p.2 else lookS r f

def AllS (P : Program) (E : Env) : List (Nat × Spec E) → Prop
  | [] => True
  | p :: r => SpecOk P E p.1 p.2 ∧ AllS P E r

theorem lookS_ok {P : Program} {E : Env} : ∀ {l : List (Nat × Spec E)}, AllS P E l → ∀ f s, lookS l f = some s → SpecOk P E f s
  | [], _, f, s, h => by cases h
  | p :: r, hl, f, s, h => by
    simp only [lookS] at h
    cases hb : Nat.beq p.1 f with
    | true =>
      rw [hb] at h
      cases h
      rw [← Nat.eq_of_beq_eq_true hb]
      exact hl.1
    | false => rw [hb] at h; exact lookS_ok hl.2 f s h

def lookD {E : Env} : List (Nat × DSpec E) → FuncId → Option (DSpec E)
  | [], _ => none
  | p :: r, f => bif Nat.beq p.1 f then some p.2 else lookD r f

def AllD (P : Program) (E : Env) : List (Nat × DSpec E) → Prop
  | [] => True
  | p :: r => DSpecOk P E p.1 p.2 ∧ AllD P E r

theorem lookD_ok {P : Program} {E : Env} : ∀ {l : List (Nat × DSpec E)}, AllD P E l → ∀ f s, lookD l f = some s → DSpecOk P E f s
  | [], _, f, s, h => by cases h
  | p :: r, hl, f, s, h => by
    simp only [lookD] at h
    cases hb : Nat.beq p.1 f with
    | true =>
      rw [hb] at h
      cases h
      rw [← Nat.eq_of_beq_eq_true hb]
      exact hl.1
    | false => rw [hb] at h; exact lookD_ok hl.2 f s h

theorem loopsOk_open {E : Env} {S : FuncId → Option (Spec E)} {L : Nat → LoopInfo E} {N : Nat} (h : ∀ i, (L i).closed = none) : ∀ (c : Code) (i : Nat), LoopsOk S L N i c
  | .seq a b, i => ⟨loopsOk_open h a i, loopsOk_open h b _⟩
  | .cond _ a b, i => ⟨loopsOk_open h a i, loopsOk_open h b _⟩
  | .block _ c, i => loopsOk_open h c i
  | .loop c, i => ⟨(fun f hf => by rw [h i] at hf; cases hf), loopsOk_open h c _⟩
  | .skip, i => trivial
  | .region _ _ _, i => trivial
  | .exit _, i => trivial
  | .ret, i => trivial
  | .scope _, i => trivial
  | .label _, i => trivial
  | .goto _, i => trivial
  | .rangeFunc .., i => trivial
  | .refuse _, i => trivial

def noL (E : Env) : Nat → LoopInfo E := fun _ => { keep := [], closed := none }
end Go.Proofs.Ytbdkijiaojbmgaa.D

set_option linter.unusedVariables false
set_option linter.unusedSimpArgs false
namespace Go.Proofs.Ytbdkijiaojbmgaa.D
open Go Go.ChangeShapes Go.RowKit

/-- A measure of readings that bounds lengths. -/
structure Meas {H : Type} (μ : DataW H → Nat) : Prop where
  str : ∀ b, b.length ≤ μ (.lit (.string b))
  len : ∀ l r, l.length ≤ μ (.slice l r)
  el : ∀ l r d, d ∈ l → μ d ≤ μ (.slice l r)
  part : ∀ l d, d ∈ l → μ d ≤ μ (.agg l)

section
variable (E : Env) (B : Nat)

def wfHL (f : (t : Ty) → I E.T t → Prop) : (ts : List Ty) → HL E.T ts → Prop
  | [], _ => True
  | t :: ts, x => f t x.1 ∧ wfHL f ts x.2

/-- Numbers in their bounds, rows no longer than so much, within so many levels. -/
def wfI : Nat → (t : Ty) → I E.T t → Prop
  | 0, _, _ => True
  | d + 1, t, x =>
    match t with
    | .bool => True
    | .int k => k.min ≤ toI k x ∧ toI k x ≤ k.max
    | .str => List.length (α := UInt8) x ≤ B
    | .slice e => List.length (α := I E.T e) x ≤ B ∧ ∀ y ∈ (show List (I E.T e) from x), wfI d e y
    | .arr n e => List.length (α := I E.T e) x = n ∧ ∀ y ∈ (show List (I E.T e) from x), wfI d e y
    | .named i => wfHL E (wfI d) (E.fields i) (E.out i x)
end

section
variable {P : Program} {E : Env} {H : Type} {enc : TypeId × Value → H} {w w' : World} {B : Nat} {μ : DataW H → Nat}

theorem cells_at {base : Nat} {a : Addr} {n : Nat} {cs : List Value} (h : w.cells? base a n = some cs) : cs.length = n ∧ ∀ i, i < n → w.cell? (a.add i) = cs[i]? := by
  unfold World.cells? at h
  split at h
  · refine ⟨by simpa using mapM_some_length h, fun i hi => ?_⟩
    exact mapM_some_get h i i (by simp [hi])
  · cases h

theorem add_zero (a : Addr) : a.add 0 = a := by unfold Addr.add; simp

theorem cell_spot {a : Addr} {v : Value} (h : w.cell? a = some v) : a = ⟨a.block, a.off, none⟩ := by
  unfold World.cell? at h
  split at h
  · split at h
    · cases h
    · rename_i hs
      obtain ⟨b, o, s⟩ := a
      simp at hs
      subst hs
      rfl
  · cases h

theorem cellsOf_eq {t : TypeId} {ty : Ty} (HS : Sound P E) (h : E.tk t = .data ty) : P.cellsOf t = E.size ty := by
  obtain ⟨i, hi, hs, _⟩ := (HS.data t ty h).info
  unfold Program.cellsOf
  rw [hi]; exact hs

theorem foff_succ {i j : Nat} {ty : Ty} (h : nth? (E.fields i) j = some ty) : E.foff i (j + 1) = E.foff i j + E.size ty := by
  unfold Env.foff
  rw [nth?_eq] at h
  rw [List.take_add_one, h]
  simp

theorem crep_of (HS : Sound P E) (htl : ∀ t, E.tk t ≠ .other → t < P.types.size) (hz : ∀ t e, t < P.types.size → P.underlying t = some (.slice e) → 0 < P.cellsOf e) (hμ : Meas μ) (hB : B ≤ lim) {M : Nat → Prop} (hM : ∀ b, ¬ M b) : ∀ (fuel : Nat) {t : TypeId} {ty : Ty} {cs : List Value} {y : DataW H × List MemPlace}, E.tk t = .data ty →
    DataW.trod enc P w 0 (fun _ => true) true fuel t cs = some y → μ y.1 ≤ B → ∃ x : I E.T ty, CRep E w M ty x cs ∧ ∀ d, wfI E B d ty x := by
  intro fuel
  induction fuel with
  | zero => intro t ty cs y _ h; simp [DataW.trod] at h
  | succ fuel ih =>
    intro t ty cs y ht h hy
    have hd := (HS.data t ty ht).desc
    cases ty with
    | bool =>
      obtain ⟨b, rfl, rfl⟩ := DataW.trod_bool hd h
      exact ⟨b, .bool b, fun d => by cases d <;> exact trivial⟩
    | int k =>
      obtain ⟨n, rfl, rfl, hw⟩ := DataW.trod_int hd h
      simp only [Lit.wf, Bool.and_eq_true, decide_eq_true_eq] at hw
      have htn : toI k (ofI k n) = n := toI_ofI k n (fun hk => by
        subst hk
        simp [IntKind.min, IntKind.max, IntKind.signed, IntKind.bits] at hw
        omega)
      refine ⟨ofI k n, ?_, fun d => ?_⟩
      · have := CRep.int (E := E) (w := w) (M := M) k (ofI k n)
        rwa [htn] at this
      · cases d with
        | zero => exact trivial
        | succ d => show k.min ≤ toI k (ofI k n) ∧ toI k (ofI k n) ≤ k.max; rw [htn]; exact hw
    | str =>
      obtain ⟨s, rfl, rfl, hs⟩ := DataW.trod_string hd h
      have hl := hμ.str s.data.toList
      have hsz : s.data.toList.length = s.size := Array.length_toList
      refine ⟨s.data.toList, .str s (by simp only at hy; omega), fun d => ?_⟩
      cases d with
      | zero => exact trivial
      | succ d => show s.data.toList.length ≤ B; simp only at hy; omega
    | slice e =>
      obtain ⟨te, hu, hte⟩ := hd
      rcases DataW.trod_slice hu h with ⟨rfl, rfl⟩ | ⟨a, len, cap, elems, rest, n, hn, rfl, rfl, _, hl, hmx, hel, hx, _⟩
      · refine ⟨[], .slice e [] none 0 [] (.nil e) (.inl rfl) (Nat.zero_le _) (Nat.le_refl _), fun d => ?_⟩
        cases d with
        | zero => exact trivial
        | succ d => exact ⟨Nat.zero_le _, fun y hy => by cases hy⟩
      · cases hn
        have hpos : 0 < P.cellsOf te := hz t te (htl t (by rw [ht]; exact fun h => by cases h)) hu
        have hsz := cellsOf_eq HS hte
        have hlenB : len ≤ B := by
          have := hμ.len (elems.map (·.1)) (rest.map (·.1))
          rw [List.length_map, hel] at this
          exact Nat.le_trans this hy
        have helB : ∀ p ∈ elems, μ p.1 ≤ B := fun p hp => Nat.le_trans (hμ.el _ _ _ (List.mem_map.2 ⟨p, hp, rfl⟩)) hy
        -- the elements, one by one
        have rows : ∀ k, k ≤ len → ∃ (xs : List (I E.T e)) (c : List Value), xs.length = k ∧ LRep E w M e xs c ∧ (∀ q u, c[q]? = some u → w.cell? (a.add q) = some u) ∧ ∀ y ∈ xs, ∀ d, wfI E B d e y := by
          intro k
          induction k with
          | zero => intro _; exact ⟨[], [], rfl, .nil e, fun q u hq => by simp at hq, fun y hy => by cases hy⟩
          | succ k ihk =>
            intro hk
            obtain ⟨xs, c, h1, h2, h3, h4⟩ := ihk (by omega)
            have hkx := hx k (by omega)
            have hke : elems[k]? = some (elems[k]'(by omega)) := List.getElem?_eq_getElem _
            rw [hke] at hkx
            obtain ⟨cs1, hc1, ht1⟩ := Option.bind_eq_some_iff.1 hkx
            obtain ⟨x, hx1, hx2⟩ := ih hte ht1 (helB _ (List.getElem_mem _))
            obtain ⟨hcl, hcc⟩ := cells_at hc1
            have hlr := LRep.append h2 (.cons e x [] cs1 [] hx1 (.nil e))
            rw [List.append_nil] at hlr
            refine ⟨xs ++ [x], c ++ cs1, by simp [h1], hlr, fun q u hq => ?_, fun y hy => ?_⟩
            · have hclen := LRep.len HS.toEnvOk h2
              rw [h1, ← hsz] at hclen
              by_cases hqc : q < c.length
              · rw [List.getElem?_append_left hqc] at hq
                exact h3 q u hq
              · rw [List.getElem?_append_right (by omega)] at hq
                have hq2 := (List.getElem?_eq_some_iff.1 hq).1
                have h5 := hcc (q - c.length) (by omega)
                rw [hq] at h5
                have h6 : (a.add (k * P.cellsOf te)).add (q - c.length) = a.add q ∨ q - c.length = 0 ∧ q = k * P.cellsOf te := by
                  by_cases h0 : q - c.length = 0
                  · right; exact ⟨h0, by omega⟩
                  · left
                    unfold Addr.add
                    by_cases h7 : k * P.cellsOf te = 0
                    · rw [if_pos h7, if_neg h0, if_neg (by omega)]
                      congr 1
                      omega
                    · rw [if_neg h7, if_neg h0, if_neg (by omega)]
                      simp only
                      congr 1
                      omega
                rcases h6 with h6 | ⟨h6, h7⟩
                · rw [← h6]; exact h5
                · rw [h6, add_zero] at h5
                  rw [h7]; exact h5
            · rcases List.mem_append.1 hy with hy | hy
              · exact h4 y hy
              · simp at hy; subst hy; exact hx2
        obtain ⟨xs, c, h1, h2, h3, h4⟩ := rows len (Nat.le_refl _)
        have hc := CRep.slice (E := E) (w := w) (M := M) e xs (some a) cap c h2 (by
          by_cases h0 : xs = []
          · exact .inl h0
          · right
            have hlen0 : 0 < xs.length := List.length_pos_iff.2 h0
            have hcl := LRep.len HS.toEnvOk h2
            rw [← hsz] at hcl
            have hc0 : 0 < c.length := by rw [hcl]; exact Nat.mul_pos hlen0 hpos
            have h5 := h3 0 _ (List.getElem?_eq_getElem hc0)
            rw [add_zero] at h5
            have hsp := cell_spot h5
            refine ⟨a.block, a.off, by rw [← hsp], hM _, cell_lt h5, fun q u hq => ?_⟩
            have := h3 q u hq
            rw [hsp, addr_add] at this
            exact this) (by omega) (by omega)
        rw [h1] at hc
        refine ⟨xs, hc, fun d => ?_⟩
        cases d with
        | zero => exact trivial
        | succ d => exact ⟨by rw [h1]; exact hlenB, fun y hy => h4 y hy d⟩
    | arr n e =>
      obtain ⟨te, hu, hte⟩ := hd
      obtain ⟨ys, m, hm, rfl, hcl, hyl, hx⟩ := DataW.trod_array hu h
      cases hm
      have hsz := cellsOf_eq HS hte
      have hsa := cellsOf_eq HS ht
      have hyB : ∀ p ∈ ys, μ p.1 ≤ B := fun p hp => Nat.le_trans (hμ.part _ _ (List.mem_map.2 ⟨p, hp, rfl⟩)) hy
      rw [hsa] at hcl
      simp only [Env.size] at hcl
      have rows : ∀ k, k ≤ n → ∃ (xs : List (I E.T e)), xs.length = k ∧ LRep E w M e xs (cs.take (k * E.size e)) ∧ ∀ y ∈ xs, ∀ d, wfI E B d e y := by
        intro k
        induction k with
        | zero => intro _; exact ⟨[], rfl, by simp; exact .nil e, fun y hy => by cases hy⟩
        | succ k ihk =>
          intro hk
          obtain ⟨xs, h1, h2, h4⟩ := ihk (by omega)
          have hkx := hx k (by omega)
          have hke : ys[k]? = some (ys[k]'(by omega)) := List.getElem?_eq_getElem _
          rw [hke] at hkx
          obtain ⟨x, hx1, hx2⟩ := ih hte hkx (hyB _ (List.getElem_mem _))
          have hlr := LRep.append h2 (.cons e x [] _ [] hx1 (.nil e))
          rw [List.append_nil, hsz, ← List.take_add] at hlr
          refine ⟨xs ++ [x], by simp [h1], by rw [Nat.add_mul, Nat.one_mul]; exact hlr, fun y hy => ?_⟩
          rcases List.mem_append.1 hy with hy | hy
          · exact h4 y hy
          · simp at hy; subst hy; exact hx2
      obtain ⟨xs, h1, h2, h4⟩ := rows n (Nat.le_refl _)
      rw [List.take_of_length_le (by omega)] at h2
      refine ⟨xs, .arr n e xs cs h1 h2, fun d => ?_⟩
      cases d with
      | zero => exact trivial
      | succ d => exact ⟨h1, fun y hy => h4 y hy d⟩
    | named i =>
      obtain ⟨fs, hu, hfl, hf⟩ := hd
      obtain ⟨ys, m, hm, rfl, hcl, hyl, hx⟩ := DataW.trod_struct hu h
      cases hm
      have hsa := cellsOf_eq HS ht
      have hyB : ∀ p ∈ ys, μ p.1 ≤ B := fun p hp => Nat.le_trans (hμ.part _ _ (List.mem_map.2 ⟨p, hp, rfl⟩)) hy
      rw [hsa] at hcl
      simp only [Env.size] at hcl
      have rows : ∀ (k j : Nat), k + j = (E.fields i).length → ∃ r : HL E.T ((E.fields i).drop j), FRep E w M ((E.fields i).drop j) r (cs.drop (E.foff i j)) ∧ ∀ d, wfHL E (wfI E B d) ((E.fields i).drop j) r := by
        intro k
        induction k with
        | zero =>
          intro j hj
          have hdr : (E.fields i).drop j = [] := List.drop_of_length_le (by omega)
          have hoff : E.foff i j = cs.length := by
            rw [hcl, HS.toEnvOk.nsize]
            unfold Env.foff
            rw [List.take_of_length_le (by omega)]
          rw [hdr, hoff, List.drop_length]
          exact ⟨(), .nil, fun d => trivial⟩
        | succ k ihk =>
          intro j hj
          obtain ⟨r, hr, hw⟩ := ihk (j + 1) (by omega)
          have hjf : j < fs.size := by omega
          have hfj : fs[j]? = some fs[j] := Array.getElem?_eq_getElem _
          obtain ⟨ty, h1, h2, h3, h4, h5⟩ := hf j _ hfj
          have hxj := hx j _ hfj
          have hyj : ys[j]? = some (ys[j]'(by omega)) := List.getElem?_eq_getElem _
          rw [hyj] at hxj
          obtain ⟨x, hx1, hx2⟩ := ih h2 hxj (hyB _ (List.getElem_mem _))
          rw [h3, cellsOf_eq HS h2] at hx1
          have hdr : (E.fields i).drop j = ty :: (E.fields i).drop (j + 1) := by
            rw [nth?_eq] at h1
            obtain ⟨hlt, he⟩ := List.getElem?_eq_some_iff.1 h1
            rw [← he]
            exact List.drop_eq_getElem_cons hlt
          rw [foff_succ h1] at hr
          rw [hdr]
          refine ⟨(x, r), ?_, fun d => ⟨hx2 d, hw d⟩⟩
          have hcat : cs.drop (E.foff i j) = (cs.drop (E.foff i j)).take (E.size ty) ++ cs.drop (E.foff i j + E.size ty) := by rw [← List.drop_drop, List.take_append_drop]
          rw [hcat]
          exact .cons ty _ x r _ _ hx1 hr
      have hall : ∃ r : HL E.T (E.fields i), FRep E w M (E.fields i) r cs ∧ ∀ d, wfHL E (wfI E B d) (E.fields i) r := by
        have h := rows (E.fields i).length 0 (by omega)
        have h0 : E.foff i 0 = 0 := by simp [Env.foff]
        rw [h0] at h
        exact h
      obtain ⟨r, hr, hw⟩ := hall
      refine ⟨E.into i r, .named i _ cs (by rw [HS.toEnvOk.out_into]; exact hr), fun d => ?_⟩
      cases d with
      | zero => exact trivial
      | succ d => show wfHL E (wfI E B d) (E.fields i) (E.out i (E.into i r)); rw [HS.toEnvOk.out_into]; exact hw d

theorem tbl_lt {tbl : List TK} (htk : ∀ t, E.tk t = nth tbl t .other) (h : tbl.length ≤ P.types.size) : ∀ t, E.tk t ≠ .other → t < P.types.size := by
  intro t ht
  rcases Nat.lt_or_ge t tbl.length with h1 | h1
  · exact Nat.lt_of_lt_of_le h1 h
  · exfalso
    apply ht
    rw [htk, nth_eq, List.getD_eq_getElem?_getD, List.getElem?_eq_none h1]
    rfl

/-! ### Arguments -/
/-- Arguments that are data, within their bounds. -/
inductive ArgsOk (E : Env) (B : Nat) : List Ty → List (DVal E.T) → Prop where
  | nil : ArgsOk E B [] []
  | cons (t : Ty) (ts : List Ty) (x : I E.T t) (ds : List (DVal E.T)) (h : ∀ d, wfI E B d t x) (h' : ArgsOk E B ts ds) : ArgsOk E B (t :: ts) (.val t x :: ds)

theorem toV_of (HS : Sound P E) {t : TypeId} {ty : Ty} {r : Reach} {base : Nat} {v : Value} (ht : E.tk t = .data ty) (h : Value.okWide P w r base t v) : toV ty v.cells.toList = v := by
  have hd := (HS.data t ty ht).desc
  cases ty with
  | bool =>
    unfold Value.okWide at h
    rw [hd] at h
    unfold Cell.okWide Cell.ok at h
    rw [hd] at h
    cases v <;> simp at h <;> rfl
  | int k =>
    unfold Value.okWide at h
    rw [hd] at h
    unfold Cell.okWide Cell.ok at h
    rw [hd] at h
    cases v <;> simp at h <;> rfl
  | str =>
    unfold Value.okWide at h
    rw [hd] at h
    unfold Cell.okWide Cell.ok at h
    rw [hd] at h
    cases v <;> simp at h <;> rfl
  | slice e =>
    obtain ⟨te, hu, _⟩ := hd
    unfold Value.okWide at h
    rw [hu] at h
    unfold Cell.okWide Cell.ok at h
    rw [hu] at h
    cases v <;> simp at h <;> rfl
  | arr n e =>
    obtain ⟨te, hu, _⟩ := hd
    unfold Value.okWide at h
    rw [hu] at h
    obtain ⟨cs, rfl, _⟩ := h
    simp [toV, isAggTy, Value.cells]
  | named i =>
    obtain ⟨fs, hu, _⟩ := hd
    unfold Value.okWide at h
    rw [hu] at h
    obtain ⟨cs, rfl, _⟩ := h
    simp [toV, isAggTy, Value.cells]

theorem args_ok (HS : Sound P E) (htl : ∀ t, E.tk t ≠ .other → t < P.types.size) (hz : ∀ t e, t < P.types.size → P.underlying t = some (.slice e) → 0 < P.cellsOf e) (hμ : Meas μ) (hB : B ≤ lim) {M : Nat → Prop} (hM : ∀ b, ¬ M b) {r : Reach} {base : Nat} (σ : Sg) (st : St E.T) : ∀ (ts : List TypeId) (ps : List Ty) (us : List Value) (ds : List (DataW H)) (pl : List MemPlace),
    ts.map E.tk = ps.map .data → DataW.TrodAll enc P w 0 (fun _ => true) true ts us ds pl → (∀ d ∈ ds, μ d ≤ B) → (∀ (j : Nat) t v, ts[j]? = some t → us[j]? = some v → Value.okWide P w r base t v) →
    ∃ xs, ArgsOk E B ps xs ∧ VReps E σ st w M xs us
  | [], [], us, ds, pl, _, h, _, _ => by
    obtain ⟨rfl, rfl, _⟩ := trodAll_nil h
    exact ⟨[], .nil, .nil⟩
  | [], _ :: _, us, ds, pl, hp, _, _, _ => by cases hp
  | _ :: _, [], us, ds, pl, hp, _, _, _ => by cases hp
  | t :: ts, ty :: ps, us, ds, pl, hp, h, hb, hok => by
    obtain ⟨v, vs, d, ds', p, q, rfl, rfl, rfl, ⟨n, h1⟩, h2⟩ := trodAll_cons h
    simp only [List.map_cons, List.cons.injEq] at hp
    obtain ⟨x, hx1, hx2⟩ := crep_of HS htl hz hμ hB hM n hp.1 h1 (hb d (by simp))
    obtain ⟨xs, hxs, hr⟩ := args_ok HS htl hz hμ hB hM σ st ts ps vs ds' q hp.2 h2 (fun d' hd' => hb d' (by simp [hd'])) (fun j t' v' h3 h4 => hok (j + 1) t' v' (by simpa using h3) (by simpa using h4))
    refine ⟨.val ty x :: xs, .cons ty ps x xs hx2 hxs, .cons _ _ _ _ ?_ hr⟩
    have hv := VRep.data (E := E) (σ := σ) (st := st) (w := w) (M := M) ty _ _ (.val ty x _ hx1)
    rw [toV_of HS hp.1 (hok 0 t v rfl rfl)] at hv
    exact hv

theorem trod_stay (hl : laidOutB P = true) : ∀ (ts : List TypeId) {us : List Value} {ds : List (DataW H)} {pl : List MemPlace}, (∀ t ∈ ts, P.readableRec t = true ∧ t < P.types.size) → DataW.TrodAll enc P w 0 (fun _ => true) true ts us ds pl → (∀ p ∈ pl, w.sameAt w' p) →
    ∀ sp : Nat → Bool, (∀ p ∈ pl, sp p.block = true) → DataW.TrodAll enc P w' 0 sp true ts us ds pl
  | [], us, ds, pl, _, h, _, sp, _ => by
    obtain ⟨rfl, rfl, rfl⟩ := trodAll_nil h
    exact trodAll_mk0
  | t :: ts, us, ds, pl, ht, h, hs, sp, hsp => by
    obtain ⟨v, vs, d, ds', p, q, rfl, rfl, rfl, h1, h2⟩ := trodAll_cons h
    have h3 := ht t (by simp)
    exact trodAll_cons_mk (WideElems.Trod_stays hl h3.1 h3.2 h1 (fun x hx => hs x (by simp [hx])) (fun x hx => hsp x (by simp [hx])))
      (trod_stay hl ts (fun t' ht' => ht t' (by simp [ht'])) h2 (fun x hx => hs x (by simp [hx])) sp (fun x hx => hsp x (by simp [hx])))

/-- What a law's statement asks, where the law is the evaluator's 'true' for all arguments. -/
theorem law_contract (HS : Sound P E) (htl : ∀ t, E.tk t ≠ .other → t < P.types.size) (hl : laidOutB P = true) (hz : ∀ t e, t < P.types.size → P.underlying t = some (.slice e) → 0 < P.cellsOf e) (hμ : Meas μ) (hB : B ≤ lim) {fid : FuncId} {fn : Func} {tb : TypeId} (hrt : fn.resultTypes = #[tb]) (htb : P.underlying tb = some .bool)
    {ps : List Ty} (hps : fn.params.toList.map E.tk = ps.map .data) (hrd : ∀ t ∈ fn.params.toList, P.readableRec t = true ∧ t < P.types.size) {s : ChangeSpec} (hv : s.vars = []) (hfn : ∀ ds : List (DataW H), ds.length = fn.params.toList.length → s.fn H ds = { results := [.lit (.bool true)], args := ds })
    {F : List (DVal E.T) → St E.T → Tree (Res E.T × St E.T)} (hF : FnOk P E fid F) (law : ∀ xs, ArgsOk E B ps xs → (F xs []).get = some (.ret [.val .bool true], []))
    (W : World) (base : Nat) (args : Array Value) (ds gs : List (DataW H)) (before : List MemPlace) (hval : ∀ (j : Nat) t v, fn.params[j]? = some t → args[j]? = some v → Value.okWide P W .any base t v)
    (hW : DataW.Whole enc P fn.params.toList s.vars false W args.toList ds gs before) (hk : ∀ d ∈ ds, μ d ≤ B) :
    Calls P fid args W fun e W' => ∃ v, e = .returned v ∧ s.post enc P fn false true false false W args v W' := by
  have hW' := hW
  have hlt := hW.lt
  obtain ⟨p, q, hA, hV, hbe, hfz, hnd⟩ := hW'
  have hgs : gs = [] ∧ q = [] := by
    rw [hv] at hV
    cases gs with
    | nil => exact ⟨rfl, hV⟩
    | cons g gs => exact hV.elim
  obtain ⟨rfl, rfl⟩ := hgs
  rw [List.append_nil] at hbe
  subst hbe
  obtain ⟨xs, hxs, hr⟩ := args_ok HS htl hz hμ hB (M := fun _ => False) (fun _ h => h) { f := fun _ => .tuple #[], m := fun _ => False } ([] : St E.T) fn.params.toList ps args.toList ds before hps hA hk (fun j t v h1 h2 => hval j t v (by simpa using h1) (by simpa using h2))
  have hst := amb_rep (E := E) (σ := { f := fun _ => .tuple #[], m := fun _ => False }) (w := W) (M := fun _ => False) (fun b hb => hb.elim)
  have hc := hF hst (VReps.keep (Kept.weaken fun b hb => MB_nil.1 hb) hr (fun k _ => Same.refl k)) (law xs hxs)
  rw [Array.toArray_toList] at hc
  refine hc.mono fun e W' hb => ?_
  obtain ⟨σ', m, hres⟩ := hb
  cases e with
  | returned v =>
    have hvb := boolRep (show VRep E σ' ([] : St E.T) W' (MB σ' ([] : St E.T)) (.val .bool true) v from hres)
    subst hvb
    have hsame : ∀ b, b < W.heap.size → W'.heap[b]? = W.heap[b]? := fun b hb => m.keep.block b hb (fun h => MB_nil.1 h)
    have hlen : ds.length = fn.params.toList.length := by
      have : ∀ (ts : List TypeId) (us : List Value) (ds : List (DataW H)) (pl : List MemPlace), DataW.TrodAll enc P W 0 (fun _ => true) true ts us ds pl → ds.length = ts.length := by
        intro ts
        induction ts with
        | nil => intro us ds pl h; obtain ⟨rfl, rfl, _⟩ := trodAll_nil h; rfl
        | cons t ts ih =>
          intro us ds pl h
          obtain ⟨v, vs, d, ds', p, q, rfl, rfl, rfl, _, h2⟩ := trodAll_cons h
          simp [ih _ _ _ h2]
      exact this _ _ _ _ hA
    have hsat : ∀ p ∈ before, W.sameAt W' p := by
      intro p hp
      have hb := hlt p hp
      cases p with
      | cell b off => exact cell_congr (hsame b hb)
      | map b => exact hsame b hb
    have hfn' := hfn ds hlen
    refine ⟨_, rfl, ds, [], before, [], before, [], hW, ?_, ?_, ?_, ?_, fun h => by cases h⟩
    · rw [List.append_nil, hfn', hrt]
      exact trodAll_cons_mk (shut_bool htb true) trodAll_mk0
    · rw [List.append_nil, hfn']
      exact trod_stay hl _ hrd hA hsat _ (fun p hp => by simpa using hlt p hp)
    · rw [hv, List.append_nil, hfn']
      rfl
    · refine ⟨m.keep.os, m.keep.output, fun i hi => ?_⟩
      rw [hsame i hi]
      generalize W.heap[i]? = o
      cases o with
      | none => rfl
      | some o =>
        cases o with
        | cells c t fr => exact ⟨rfl, rfl, rfl, fun _ _ => rfl⟩
        | map es clock => exact .inr ⟨rfl, rfl⟩
        | _ => rfl
  | panicked ch => exact hres.elim
  | outgrown => exact hres.elim
end
end Go.Proofs.Ytbdkijiaojbmgaa.D

set_option linter.unusedVariables false
set_option linter.unusedSimpArgs false
namespace Go.Proofs.Ytbdkijiaojbmgaa.D
open Go

/-- The body of a code's loop number so much, counted in text order. -/
def loopAt : Nat → Code → Option Code
  | i, .seq a b => bif Nat.blt i (nLoops a) then loopAt i a else loopAt (i - nLoops a) b
  | i, .cond _ a b => bif Nat.blt i (nLoops a) then loopAt i a else loopAt (i - nLoops a) b
  | i, .block _ c => loopAt i c
  | 0, .loop c => some c
  | i + 1, .loop c => loopAt i c
  | _, _ => none

theorem blt_yes {a b : Nat} (h : a < b) : Nat.blt a b = true := by rw [Nat.blt_eq]; exact h
theorem blt_no {a b : Nat} (h : b ≤ a) : Nat.blt a b = false := by
  cases hb : Nat.blt a b with
  | false => rfl
  | true => rw [Nat.blt_eq] at hb; omega

section
variable {E : Env}

theorem loopAt_two {a b : Code} {k : Nat} {cb : Code} (ha : loopAt k a = some cb → k < nLoops a) (hb : loopAt (k - nLoops a) b = some cb → k - nLoops a < nLoops b) (h : (bif Nat.blt k (nLoops a) then loopAt k a else loopAt (k - nLoops a) b) = some cb) : k < nLoops a + nLoops b := by
  rcases Nat.lt_or_ge k (nLoops a) with h1 | h1
  · omega
  · rw [blt_no h1] at h
    have := hb h
    omega

theorem loopAt_lt : ∀ (c : Code) (k : Nat) {cb : Code}, loopAt k c = some cb → k < nLoops c
  | .seq a b, k, cb, h => by
    unfold loopAt at h
    exact loopAt_two (loopAt_lt a k) (loopAt_lt b _) h
  | .cond _ a b, k, cb, h => by
    unfold loopAt at h
    exact loopAt_two (loopAt_lt a k) (loopAt_lt b _) h
  | .block _ c, k, cb, h => by
    unfold loopAt at h
    exact loopAt_lt c k h
  | .loop c, 0, cb, h => Nat.succ_pos _
  | .loop c, k + 1, cb, h => by
    unfold loopAt at h
    exact Nat.succ_lt_succ (loopAt_lt c k h)
  | .skip, _, _, h => by unfold loopAt at h; cases h
  | .region _ _ _, _, _, h => by unfold loopAt at h; cases h
  | .exit _, _, _, h => by unfold loopAt at h; cases h
  | .ret, _, _, h => by unfold loopAt at h; cases h
  | .scope _, _, _, h => by unfold loopAt at h; cases h
  | .label _, _, _, h => by unfold loopAt at h; cases h
  | .goto _, _, _, h => by unfold loopAt at h; cases h
  | .rangeFunc .., _, _, h => by unfold loopAt at h; cases h
  | .refuse _, _, _, h => by unfold loopAt at h; cases h

/-- What is to be shown of a loop's closed form. -/
def LpOk (S : FuncId → Option (Spec E)) (L : Nat → LoopInfo E) (N : Nat) (i : Nat) (cb : Code) : Prop :=
  ∀ f, (L i).closed = some f → ∀ fr st out, (f fr st).get = some out → ∃ m, (loopT E (dcode E S L N (i + 1) cb) (L i).keep st.length m fr st).get = some out

theorem loopsOk_two {S : FuncId → Option (Spec E)} {L : Nat → LoopInfo E} {N : Nat} {a b : Code} {i : Nat} (ha : (∀ k cb, loopAt k a = some cb → LpOk S L N (i + k) cb) → LoopsOk S L N i a) (hb : (∀ k cb, loopAt k b = some cb → LpOk S L N (i + nLoops a + k) cb) → LoopsOk S L N (i + nLoops a) b)
    (h : ∀ k cb, (bif Nat.blt k (nLoops a) then loopAt k a else loopAt (k - nLoops a) b) = some cb → LpOk S L N (i + k) cb) : LoopsOk S L N i a ∧ LoopsOk S L N (i + nLoops a) b := by
  refine ⟨ha fun k cb hk => h k cb ?_, hb fun k cb hk => ?_⟩
  · rw [blt_yes (loopAt_lt a k hk)]; exact hk
  · have := h (nLoops a + k) cb (by rw [blt_no (by omega), Nat.add_sub_cancel_left]; exact hk)
    rwa [← Nat.add_assoc] at this

theorem loopsOk_of {S : FuncId → Option (Spec E)} {L : Nat → LoopInfo E} {N : Nat} : ∀ (c : Code) (i : Nat), (∀ k cb, loopAt k c = some cb → LpOk S L N (i + k) cb) → LoopsOk S L N i c
  | .seq a b, i, h => loopsOk_two (loopsOk_of a i) (loopsOk_of b _) (fun k cb hk => h k cb (by unfold loopAt; exact hk))
  | .cond _ a b, i, h => loopsOk_two (loopsOk_of a i) (loopsOk_of b _) (fun k cb hk => h k cb (by unfold loopAt; exact hk))
  | .block _ c, i, h => loopsOk_of c i fun k cb hk => h k cb (by unfold loopAt; exact hk)
  | .loop c, i, h => ⟨h 0 c (by unfold loopAt; rfl), loopsOk_of c (i + 1) fun k cb hk => by
      have := h (k + 1) cb (by unfold loopAt; exact hk)
      rwa [show i + (k + 1) = i + 1 + k by omega] at this⟩
  | .skip, _, _ => trivial
  | .region _ _ _, _, _ => trivial
  | .exit _, _, _ => trivial
  | .ret, _, _ => trivial
  | .scope _, _, _ => trivial
  | .label _, _, _ => trivial
  | .goto _, _, _ => trivial
  | .rangeFunc .., _, _ => trivial
  | .refuse _, _, _ => trivial

/-! ### Rounds -/
def LoopTo (step : Fr E.T → St E.T → Tree (CodeOut E)) (ks : List Nat) (n : Nat) (h : Fr E.T) (st : St E.T) (out : CodeOut E) : Prop :=
  ∃ m, ∀ fr0 st0, headOf E ks n fr0 st0 = some (h, st) → (loopT E step ks n m fr0 st0).get = some out

/-- How a round ends: the next round's head, or the loop's outcome; what returns or panics is left out. -/
def nx (E : Env) (ks : List Nat) (n : Nat) (p : CodeOut E) : Tree (Sum (Fr E.T × St E.T) (CodeOut E)) :=
  match p.1 with
  | .normal => match headOf E ks n p.2.1 p.2.2 with
    | some q => .ret (.inl q)
    | none => .fail
  | .exit _ => .ret (.inr p)
  | _ => .fail

theorem LoopTo.next {step : Fr E.T → St E.T → Tree (CodeOut E)} {ks : List Nat} {n : Nat} {h h' : Fr E.T} {st st' : St E.T} {out : CodeOut E} (h1 : ((step h st).bind (nx E ks n)).get = some (.inl (h', st'))) (h2 : LoopTo step ks n h' st' out) : LoopTo step ks n h st out := by
  obtain ⟨m, hm⟩ := h2
  refine ⟨m + 1, fun fr0 st0 h0 => ?_⟩
  obtain ⟨p, hs, h1⟩ := Tree.get_bind_some h1
  unfold loopT
  rw [h0]
  simp only [Tree.get_bind, hs, Option.bind_some]
  obtain ⟨e, fr, s⟩ := p
  cases e with
  | normal =>
    simp only [nx] at h1
    cases hh : headOf E ks n fr s with
    | none => rw [hh] at h1; cases h1
    | some q => rw [hh] at h1; cases h1; exact hm _ _ hh
  | exit _ => cases h1
  | ret => cases h1
  | panic _ => cases h1

theorem LoopTo.stop {step : Fr E.T → St E.T → Tree (CodeOut E)} {ks : List Nat} {n : Nat} {h : Fr E.T} {st : St E.T} {out : CodeOut E} (h1 : ((step h st).bind (nx E ks n)).get = some (.inr out)) : LoopTo step ks n h st out := by
  refine ⟨1, fun fr0 st0 h0 => ?_⟩
  obtain ⟨p, hs, h1⟩ := Tree.get_bind_some h1
  unfold loopT
  rw [h0]
  simp only [Tree.get_bind, hs, Option.bind_some]
  obtain ⟨e, fr, s⟩ := p
  cases e with
  | normal =>
    simp only [nx] at h1
    cases hh : headOf E ks n fr s with
    | none => rw [hh] at h1; cases h1
    | some q => rw [hh] at h1; cases h1
  | exit _ => cases h1; rfl
  | ret => cases h1
  | panic _ => cases h1

/-! ### Frames by the slots that are carried -/
def isU {T : Nat → Type} : DVal T → Bool
  | .undef => true
  | _ => false

def shapeB {T : Nat → Type} (ks : List Nat) : Nat → List (DVal T) → Bool
  | _, [] => true
  | i, v :: r => (memB ks i || isU v) && shapeB ks (i + 1) r

def pick {T : Nat → Type} : List (Nat × DVal T) → Nat → DVal T
  | [], _ => .undef
  | (j, v) :: r, i => bif Nat.beq i j then v else pick r i

def slots {T : Nat → Type} (l : List (Nat × DVal T)) (n : Nat) : List (DVal T) := (List.range n).map (pick l)

theorem pick_map {T : Nat → Type} (f : Nat → DVal T) (q : Nat) : ∀ ks : List Nat, pick (ks.map fun j => (j, f j)) q = bif memB ks q then f q else .undef
  | [] => rfl
  | j :: ks => by
    simp only [List.map_cons, pick, memB, List.any_cons]
    cases h : Nat.beq q j with
    | true => rw [Nat.eq_of_beq_eq_true h]; rfl
    | false => exact pick_map f q ks

theorem shape_at {T : Nat → Type} (ks : List Nat) : ∀ (l : List (DVal T)) (i q : Nat), shapeB ks i l = true → memB ks (i + q) = false → nth l q .undef = .undef
  | [], _, _, _, _ => rfl
  | v :: r, i, 0, h, hm => by
    unfold shapeB at h
    rw [show memB ks i = false from hm] at h
    have := (Bool.and_eq_true _ _ ▸ h).1
    cases v <;> first | rfl | cases this
  | v :: r, i, q + 1, h, hm => by
    unfold shapeB at h
    have := (Bool.and_eq_true _ _ ▸ h).2
    exact shape_at ks r (i + 1) q this (by rw [show i + 1 + q = i + (q + 1) by omega]; exact hm)

theorem shape_eq {T : Nat → Type} {ks : List Nat} {l : List (DVal T)} (h : shapeB ks 0 l = true) : l = slots (ks.map fun j => (j, nth l j .undef)) l.length := by
  refine List.ext_getElem (by simp [slots]) fun q h1 h2 => ?_
  have e1 : nth l q .undef = l[q] := by rw [nth_eq, List.getD_eq_getElem?_getD, List.getElem?_eq_getElem h1]; rfl
  simp only [slots, List.getElem_map, List.getElem_range, pick_map]
  cases hm : memB ks q with
  | true => exact e1.symm
  | false =>
    have := shape_at ks l 0 q h (by rw [Nat.zero_add]; exact hm)
    rw [← e1, this]; rfl

theorem zip_map_self {α β : Type} (f : α → β) : ∀ ks : List α, ks.zip (ks.map f) = ks.map fun j => (j, f j)
  | [] => rfl
  | k :: ks => by simp [zip_map_self f ks]

def noD {T : Nat → Type} (fr : Fr T) : Bool :=
  match fr.d with
  | [] => true
  | _ => false

/-- A closed form that looks at the carried slots alone. -/
def closedOf (E : Env) (n : Nat) (ks : List Nat) (g : List (DVal E.T) → St E.T → Tree (CodeOut E)) (fr : Fr E.T) (st : St E.T) : Tree (CodeOut E) :=
  match headOf E ks st.length fr st with
  | some (fr', st') => bif Nat.beq fr'.s.length n && (noD fr' && shapeB ks 0 fr'.s) then g (ks.map fun j => nth fr'.s j .undef) st' else .fail
  | none => .fail

def ofSlots (E : Env) (n : Nat) (ks : List Nat) (vals : List (DVal E.T)) : Fr E.T := { s := slots (ks.zip vals) n, d := [] }

theorem closed_ok {n : Nat} {ks : List Nat} {g : List (DVal E.T) → St E.T → Tree (CodeOut E)} {step : Fr E.T → St E.T → Tree (CodeOut E)} (h : ∀ vals st out, (g vals st).get = some out → LoopTo step ks st.length (ofSlots E n ks vals) st out)
    (fr : Fr E.T) (st : St E.T) (out : CodeOut E) (hc : (closedOf E n ks g fr st).get = some out) : ∃ m, (loopT E step ks st.length m fr st).get = some out := by
  unfold closedOf at hc
  cases hh : headOf E ks st.length fr st with
  | none => rw [hh] at hc; cases hc
  | some p =>
    obtain ⟨fr', st'⟩ := p
    rw [hh] at hc
    simp only at hc
    cases hb : (Nat.beq fr'.s.length n && (noD fr' && shapeB ks 0 fr'.s)) with
    | false => rw [hb] at hc; cases hc
    | true =>
      rw [hb] at hc
      simp only [Bool.and_eq_true] at hb
      obtain ⟨h1, h2, h3⟩ := hb
      have e1 := shape_eq h3
      rw [Nat.eq_of_beq_eq_true h1] at e1
      have e2 : fr' = ofSlots E n ks (ks.map fun j => nth fr'.s j .undef) := by
        unfold ofSlots
        rw [zip_map_self, ← e1]
        obtain ⟨s, d⟩ := fr'
        cases d with
        | nil => rfl
        | cons _ _ => cases h2
      have hst : st' = st := by
        unfold headOf at hh
        simp only at hh
        rw [cond_eq_ite] at hh
        split at hh
        · cases hh; exact List.take_length
        · cases hh
      rw [hst] at hh hc
      obtain ⟨m, hm⟩ := h _ st out hc
      exact ⟨m, hm fr st (by rw [hh, e2.symm])⟩
end
end Go.Proofs.Ytbdkijiaojbmgaa.D
