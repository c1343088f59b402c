/- Regions whose order is open: what an operation does hangs on what it looks at alone. Regions whose order is open: what an operation does hangs on what it looks at alone (2). Regions whose order is open: what an operation does hangs on what it looks at alone (3). Regions whose order is open: two operations change places (1). Regions whose order is open: two operations change places (2). Regions whose order is open: two operations change places (3). Regions whose order is open: two operations change places (4). Regions whose order is open: any order comes to what the text's order comes to. Regions whose order is open: one operation in the machine. Regions whose order is open: what is made takes its place. -/
import Derived.Test.YthabbcjjecpbmaaGreatBase3
set_option linter.unusedVariables false
set_option linter.unusedSimpArgs false
namespace Go.Proofs.YthabbcjjecpbmaaGreat.D
open Go
noncomputable section
section
variable {E : Env} {st st2 : St E.T}
def AgreeOn {T : Nat → Type} (L : List Nat) (st st2 : St T) : Prop := ∀ k ∈ L, nth? st k = nth? st2 k
theorem AgreeOn.mono {T : Nat → Type} {L L' : List Nat} {st st2 : St T} (h : AgreeOn L st st2) (hs : ∀ k ∈ L', k ∈ L) : AgreeOn L' st st2 := fun k hk => h k (hs k hk)
theorem owns_mem {d : DVal E.T} : ∀ {fs : List (DVal E.T)}, d ∈ fs → ∀ k ∈ owns d, k ∈ ownsL fs
 | v :: r, h, k, hk => by
  unfold ownsL
  rcases List.mem_cons.1 h with rfl | h
  ·exact List.mem_append_left _ hk
  ·exact List.mem_append_right _ (owns_mem h k hk)
mutual
theorem owns_refs : ∀ (d : DVal E.T), ∀ k ∈ owns d, k ∈ refs d
 | .own o, k, h => by simpa [owns, refs] using h
 | .agg i fs, k, h => by unfold owns at h; unfold refs; exact ownsL_refs fs k h
 | .tup fs, k, h => by unfold owns at h; unfold refs; exact ownsL_refs fs k h
 | .fn f fs, k, h => by unfold owns at h; unfold refs; exact ownsL_refs fs k h
 | .ifc t v, k, h => by unfold owns at h; unfold refs; exact owns_refs v k h
 | .ptr o p, k, h => by simp [owns] at h
 | .val t x, k, h => by simp [owns] at h
 | .nils, k, h => by simp [owns] at h
 | .nilptr, k, h => by simp [owns] at h
 | .rptr t x, k, h => by simp [owns] at h
 | .nilfn, k, h => by simp [owns] at h
 | .nilifc, k, h => by simp [owns] at h
 | .stale e, k, h => by simp [owns] at h
 | .undef, k, h => by simp [owns] at h
theorem ownsL_refs : ∀ (ds : List (DVal E.T)), ∀ k ∈ ownsL ds, k ∈ refsL ds
 | [], k, h => by simp [ownsL] at h
 | d :: r, k, h => by
  unfold ownsL at h
  unfold refsL
  rcases List.mem_append.1 h with h | h
  ·exact List.mem_append_left _ (owns_refs d k h)
  ·exact List.mem_append_right _ (ownsL_refs r k h)
end
theorem toHLWith_cong {f g : (t : Ty) → DVal E.T → Option (I E.T t)} : ∀ (ts : List Ty) (vs : List (DVal E.T)), (∀ t, ∀ v ∈ vs, f t v = g t v) → toHLWith E f ts vs = toHLWith E g ts vs
 | [], [], _ => rfl
 | [], _ :: _, _ => rfl
 | _ :: _, [], _ => rfl
 | t :: ts, v :: vs, h => by
  simp only [toHLWith]
  rw [h t v (by simp), toHLWith_cong ts vs (fun t v hv => h t v (by simp [hv]))]
theorem toData_cong : ∀ (n : Nat) (t : Ty) (v : DVal E.T), AgreeOn (owns v) st st2 → toData E st n t v = toData E st2 n t v
 | 0, _, _, _ => rfl
 | n + 1, t, v, h => by
  cases v with
  | own k =>
   simp only [toData]
   rw [h k (by simp [owns])]
  | agg i fs =>
   cases t with
   | named j =>
    simp only [toData]
    rw [toHLWith_cong (E.fields j) fs (fun t v hv => toData_cong n t v (h.mono fun k hk => by unfold owns; exact owns_mem hv k hk))]
   | _ => rfl
  | _ => rfl
theorem fitsD_cong (t : Ty) (v : DVal E.T) (h : AgreeOn (owns v) st st2) : fitsD E st t v = fitsD E st2 t v := by
 cases v with
 | own k => simp only [fitsD]; rw [h k (by simp [owns])]
 | _ => rfl
theorem oldD_cong (t : Ty) (v : DVal E.T) (h : AgreeOn (owns v) st st2) : oldD E st t v = oldD E st2 t v := by
 cases v with
 | stale e => rfl
 | own k => simp only [oldD]; exact fitsD_cong t _ h
 | _ => rfl
theorem fits_cong (t : TypeId) (v : DVal E.T) (h : AgreeOn (owns v) st st2) : fits E st t v = fits E st2 t v := by
 unfold fits
 split
 ·exact fitsD_cong _ v h
 ·rfl
 ·rfl
theorem fitsOld_cong (t : TypeId) (v : DVal E.T) (h : AgreeOn (owns v) st st2) : fitsOld E st t v = fitsOld E st2 t v := by
 unfold fitsOld
 split
 ·exact oldD_cong _ v h
 ·rfl
 ·rfl
theorem fill_cong (ts : List Ty) : ∀ (ps : List (Nat × DVal E.T)) (fs : List (DVal E.T)) (f : List (DVal E.T) → Tree (DVal E.T)), AgreeOn (ownsL (ps.map (·.2))) st st2 → dbuild.fill E st ts fs ps f = dbuild.fill E st2 ts fs ps f
 | [], fs, f, _ => by simp [dbuild.fill]
 | (j, v) :: r, fs, f, h => by
  simp only [dbuild.fill]
  cases nth? ts j with
  | none => rfl
  | some t =>
   simp only
   rw [fitsD_cong t v (h.mono fun k hk => by simp [ownsL, hk]), fill_cong ts r _ f (h.mono fun k hk => by simp [ownsL, hk])]
theorem dbuild_cong (t : TypeId) (ps : List (Nat × DVal E.T)) (h : AgreeOn (ownsL (ps.map (·.2))) st st2) : dbuild E st t ps = dbuild E st2 t ps := by
 unfold dbuild
 split
 ·exact fill_cong _ ps _ _ h
 ·rfl
 ·rfl
theorem dcmp_cong (t : Ty) (x y : DVal E.T) (f : Bool → Bool) (hx : AgreeOn (owns x) st st2) (hy : AgreeOn (owns y) st st2) : dcmp E st t x y f = dcmp E st2 t x y f := by
 unfold dcmp
 rw [toData_cong depth t x hx, toData_cong depth t y hy]
theorem dbin_cong (op : BinOp) (t : TypeId) (x y : DVal E.T) (hx : AgreeOn (owns x) st st2) (hy : AgreeOn (owns y) st st2) : dbin E st op t x y = dbin E st2 op t x y := by
 unfold dbin
 split <;> first | rfl | skip
 split <;> first | rfl | (congr 1; cases op <;> first | rfl | exact dcmp_cong _ x y _ hx hy)
theorem dconv_cong (src dst : TypeId) (x : DVal E.T) (hd : ∀ e, E.tk dst ≠ .data (.slice e)) (h : AgreeOn (owns x) st st2) : (dconv E st src dst x).bind (fun p => .ret p.1) = (dconv E st2 src dst x).bind (fun p => Tree.ret p.1) := by
 unfold dconv
 cases isData E src with
 | false => rfl
 | true =>
  simp only [Tree.need]
  split <;> first | rfl | skip
  ·rename_i s h1; exact absurd h1 (hd _)
  ·rename_i s h1; exact absurd h1 (hd _)
  ·split
   ·unfold elems
    rw [toData_cong (st := st) (st2 := st2) depth _ _ h]
    have hk : ∀ o : Option (List UInt8), ((Tree.ofOpt o).bind fun s => Tree.ret ((DVal.val Ty.str s : DVal E.T), st)).bind (fun p => Tree.ret p.1) = ((Tree.ofOpt o).bind fun s => Tree.ret ((DVal.val Ty.str s : DVal E.T), st2)).bind (fun p => Tree.ret p.1) := by
     intro o; cases o <;> rfl
    exact hk _
   ·rfl
theorem dlen_cong (t : TypeId) (x : DVal E.T) (h : AgreeOn (owns x) st st2) : dlen E st t x = dlen E st2 t x := by
 unfold dlen
 split <;> first | rfl | skip
 rename_i e k _
 rw [h k (by simp [owns])]
theorem dindexAddr_cong (t : TypeId) (x i : DVal E.T) (h : AgreeOn (owns x) st st2) : dindexAddr E st t x i = dindexAddr E st2 t x i := by
 unfold dindexAddr
 split <;> first | rfl | skip
 split <;> first | rfl | skip
 rename_i o
 rw [h o (by simp [owns])]
theorem dslice_cong (t : TypeId) (x : DVal E.T) (lo hi mx : Option (DVal E.T)) (h1 : ∀ k, x ≠ .own k) (h2 : ∀ o p, x ≠ .ptr o p) : (dslice E st t x lo hi mx).bind (fun p => .ret p.1) = (dslice E st2 t x lo hi mx).bind (fun p => Tree.ret p.1) := by
 have key : ∀ {α : Type} (xs : List α) (t1 : Bool) (l h : Option Int) (g : List α → DVal E.T), (Tree.need t1 ((Tree.ofOpt l).bind fun l => (Tree.ofOpt h).bind fun h => dcut E xs l h fun r => .ret (g r, st))).bind (fun p => .ret p.1) =
   (Tree.need t1 ((Tree.ofOpt l).bind fun l => (Tree.ofOpt h).bind fun h => dcut E xs l h fun r => .ret (g r, st2))).bind (fun p => Tree.ret p.1) := by
  intro α xs t1 l h g
  cases t1 <;> cases l <;> cases h <;> rfl
 unfold dslice
 split
 ·rfl
 ·split <;> first | exact key _ _ _ _ _ | rfl | skip
  ·rename_i k; exact absurd rfl (h1 k)
  ·rename_i o p; exact absurd rfl (h2 o p)
theorem appended_cong (tx : TypeId) (e : Ty) (x : DVal E.T) (k : List (I E.T e) → Tree (Out E)) (h : AgreeOn (owns x) st st2) : appended E st tx e x k = appended E st2 tx e x k := by
 unfold appended
 split <;> first | rfl | skip
 unfold elems
 rw [toData_cong depth _ x h]
theorem appended_bind {β : Type} (tx : TypeId) (e : Ty) (x : DVal E.T) (k : List (I E.T e) → Tree (Out E)) (g : Out E → Tree β) (k' : List (I E.T e) → Tree (Out E)) (g' : Out E → Tree β) (h : ∀ ys, (k ys).bind g = (k' ys).bind g') :
  (appended E st tx e x k).bind g = (appended E st tx e x k').bind g' := by
 unfold appended
 split
 ·cases isNum E tx with
  | false => rfl
  | true =>
   simp only [Tree.need, Tree.bind]
   congr 1
   cases zeroI E depth e with
   | none => rfl
   | some z => exact h _
 ·cases isTy E tx .str with
  | false => rfl
  | true =>
   simp only [Tree.need]
   split
   ·exact h _
   ·rfl
 ·cases isSl E tx with
  | false => rfl
  | true =>
   simp only [Tree.need]
   cases elems E st e x with
   | none => rfl
   | some ys => exact h ys
theorem makeSlice_cong (t : TypeId) (l c : DVal E.T) : (dmakeSlice E true st t l c).bind (fun p => .ret p.1) = (dmakeSlice E true st2 t l c).bind (fun p => Tree.ret p.1) := by
 unfold dmakeSlice
 split
 ·simp only [Tree.bind]
  congr 1
  generalize zeroI E depth _ = z
  cases z <;> rfl
 ·rfl
theorem dval_ev {ev ev2 : Operand → DVal E.T} (o : Op) (h : ∀ x ∈ o.operands, ev x = ev2 x) : dval E ev st o = dval E ev2 st o := by
 have pairs : ∀ ps : Array (Nat × Operand), (∀ x ∈ ps.map (·.2), ev x = ev2 x) → (ps.toList.map fun x => (x.1, ev x.2)) = (ps.toList.map fun x => (x.1, ev2 x.2)) := fun ps hp =>
  List.map_congr_left fun p hm => by rw [hp p.2 (Array.mem_map.2 ⟨p, by simpa using hm, rfl⟩)]
 have list : ∀ xs : Array Operand, (∀ x ∈ xs, ev x = ev2 x) → xs.toList.map ev = xs.toList.map ev2 := fun xs hp => List.map_congr_left fun x hm => hp x (by simpa using hm)
 cases o <;> simp only [Op.operands] at h <;> simp only [dval]
 case build t ps => rw [pairs ps fun x hx => h x (by simpa using hx)]
 case buildSlice t n ps => rw [pairs ps fun x hx => h x (by simpa using hx)]
 case makeFunc fn first captured =>
  cases fn <;> simp only [dval]
  rw [list captured fun x hx => h x (by simp [hx])]
 case call c =>
  obtain ⟨callee, args, ats⟩ := c
  cases callee with
  | builtin b =>
   simp only [dval]
   rw [list args fun x hx => h x (by simp [Call.operands, hx])]
  | _ => rfl
 case slice t x lo hi mx => cases lo <;> cases hi <;> cases mx <;> simp_all
 case typeAssert x xt t ok => cases ok <;> simp_all [dval]
 all_goals (first | rfl | (simp_all; done))
theorem deff_ev {S : FuncId → Option (Spec E)} {fx : List Nat} {ev ev2 : Operand → DVal E.T} {id : Nat} (o : Op) (h : ∀ x ∈ o.operands, ev x = ev2 x) : deff E S fx ev st id o = deff E S fx ev2 st id o := by
 have list : ∀ xs : Array Operand, (∀ x ∈ xs, ev x = ev2 x) → xs.toList.map ev = xs.toList.map ev2 := fun xs hp => List.map_congr_left fun x hm => hp x (by simpa using hm)
 have hv := dval_ev (st := st) o h
 cases o with
 | alloc t => rfl
 | box t v => simp only [deff]; rw [h v (by simp [Op.operands])]
 | convert src dst x =>
  have hx := h x (by simp [Op.operands])
  simp only [deff]
  rw [hv, hx]
 | store t a v => simp only [deff]; rw [h a (by simp [Op.operands]), h v (by simp [Op.operands])]
 | makeSlice t l c => simp only [deff]; rw [h l (by simp [Op.operands]), h c (by simp [Op.operands])]
 | buildSlice t n ps =>
  have hp : ∀ x ∈ ps.toList, ev x.2 = ev2 x.2 := fun x hx => h x.2 (by simp only [Op.operands]; simp; exact ⟨x.1, by simpa using hx⟩)
  have h1 : (ps.toList.map fun x => ev x.2) = ps.toList.map fun x => ev2 x.2 := List.map_congr_left hp
  have h2 : ∀ s : St E.T, (ps.toList.map fun x => (x.1, datV E s 0 (ev x.2))) = ps.toList.map fun x => (x.1, datV E s 0 (ev2 x.2)) := fun s => List.map_congr_left fun x hx => by rw [hp x hx]
  simp only [deff]
  rw [hv, h1]
  simp only [h2]
 | call c =>
  obtain ⟨callee, args, ats⟩ := c
  cases callee with
  | value f =>
   simp only [deff]
   rw [h f (by simp [Op.operands, Call.operands]), list args fun x hx => h x (by simp [Op.operands, Call.operands, hx])]
  | invoke r m => simp only [deff]; rw [hv]
  | builtin b =>
   cases b <;> simp only [deff] <;> first | rw [hv] | skip
   rw [list args fun x hx => h x (by simp [Op.operands, Call.operands, hx])]
 | _ => simp only [deff]; rw [hv]
end
end
open Go
section
variable {E : Env} {st st2 : St E.T}
theorem objAt_cong {k : Nat} (h : nth? st k = nth? st2 k) : objAt E st k = objAt E st2 k := by unfold objAt; rw [h]
theorem reach_cong {L : List Nat} (hc : ∀ k ∈ L, ∀ j ∈ objAt E st k, j ∈ L) (h : AgreeOn L st st2) : ∀ (n : Nat) (todo seen : List Nat), (∀ k ∈ todo, k ∈ L) → reach E st n todo seen = reach E st2 n todo seen
 | 0, _, _, _ => rfl
 | n + 1, [], _, _ => rfl
 | n + 1, k :: t, seen, ht => by
  simp only [reach]
  have hk := ht k (by simp)
  rw [← objAt_cong (h k hk)]
  rw [reach_cong hc h n t seen (fun j hj => ht j (by simp [hj])), reach_cong hc h n _ _ (fun j hj => by
   rcases List.mem_append.1 hj with hj | hj
   ·exact hc k hk j hj
   ·exact ht j (by simp [hj]))]
theorem reach_in {L : List Nat} (hc : ∀ k ∈ L, ∀ j ∈ objAt E st k, j ∈ L) : ∀ (n : Nat) (todo seen : List Nat), (∀ k ∈ todo, k ∈ L) → (∀ k ∈ seen, k ∈ L) → ∀ k ∈ reach E st n todo seen, k ∈ L
 | 0, _, _, _, hs, k, h => hs k h
 | n + 1, [], _, _, hs, k, h => hs k h
 | n + 1, j :: t, seen, ht, hs, k, h => by
  simp only [reach] at h
  have hj := ht j (by simp)
  cases hb : memB seen j with
  | true =>
   rw [hb] at h
   exact reach_in hc n t seen (fun i hi => ht i (by simp [hi])) hs k h
  | false =>
   rw [hb] at h
   refine reach_in hc n _ _ (fun i hi => ?_) (fun i hi => ?_) k h
   ·rcases List.mem_append.1 hi with hi | hi
    ·exact hc j hj i hi
    ·exact ht i (by simp [hi])
   ·rcases List.mem_append.1 hi with hi | hi
    ·exact hs i hi
    ·simp at hi; subst hi; exact hj
theorem closedB_cong {R : List Nat} (h : AgreeOn R st st2) (hl : st.length = st2.length) : closedB E st R = closedB E st2 R := by
 unfold closedB
 congr 1
 have : ∀ (l : List Nat), (∀ k ∈ l, nth? st k = nth? st2 k) → (l.all fun k => Nat.blt k st.length && (objAt E st k).all (memB R)) = (l.all fun k => Nat.blt k st2.length && (objAt E st2 k).all (memB R)) := by
  intro l
  induction l with
  | nil => intro _; rfl
  | cons k l ih =>
   intro hk
   simp only [List.all_cons]
   rw [ih (fun j hj => hk j (by simp [hj])), objAt_cong (hk k (by simp)), hl]
 exact this R h
theorem locSt_cong {fx R : List Nat} (h : AgreeOn R st st2) : locSt E st fx R = locSt E st2 fx R := by
 unfold locSt
 exact List.map_congr_left fun k hk => by rw [h k hk]
theorem movers_cong {R : List Nat} (h : AgreeOn R st st2) : movers E st R = movers E st2 R := by
 unfold movers
 exact List.filter_congr fun k hk => by rw [h k hk]
theorem live_cong {R : List Nat} (h : AgreeOn R st st2) : live E st R = live E st2 R := by
 unfold live
 exact List.filter_congr fun k hk => by rw [h k hk]
theorem unfixL_cong : ∀ {R : List Nat} (q : List (Obj E.T)), AgreeOn R st st2 → unfixL E st R q = unfixL E st2 R q
 | [], q, _ => by cases q <;> rfl
 | k :: R, [], _ => rfl
 | k :: R, ob :: q, h => by simp only [unfixL]; rw [h k (by simp), unfixL_cong q (h.mono fun j hj => by simp [hj])]
theorem frozen_cong : ∀ {R : List Nat}, AgreeOn R st st2 → frozen E st R = frozen E st2 R
 | [], _ => rfl
 | k :: R, h => by
  simp only [frozen]
  rw [h k (by simp), frozen_cong (h.mono fun j hj => by simp [hj])]
theorem dargs_cong : ∀ (ps : List Ty) (vs : List (DVal E.T)), AgreeOn (ownsL vs) st st2 → dargs E st ps vs = dargs E st2 ps vs
 | [], [], _ => rfl
 | [], _ :: _, _ => rfl
 | _ :: _, [], _ => rfl
 | t :: ts, v :: vs, h => by
  simp only [dargs]
  rw [toData_cong depth t v (h.mono fun k hk => by simp [ownsL, hk]), dargs_cong ts vs (h.mono fun k hk => by simp [ownsL, hk])]
theorem dargsF_cong : ∀ (ps : List TK) (vs : List (DVal E.T)), AgreeOn (ownsL vs) st st2 → dargsF E st ps vs = dargsF E st2 ps vs
 | [], [], _ => rfl
 | [], _ :: _, _ => rfl
 | tk :: ts, [], _ => by cases tk <;> rfl
 | tk :: ts, v :: vs, h => by
  have ih := dargsF_cong ts vs (h.mono fun k hk => by simp [ownsL, hk])
  cases tk with
  | data t =>
   simp only [dargsF]
   rw [toData_cong depth t v (h.mono fun k hk => by simp [ownsL, hk]), ih]
  | other => rfl
  | _ => simp only [dargsF]; rw [ih]
theorem dataRefs_cong : ∀ (ps : List TK) (vs : List (DVal E.T)), dataRefs E st ps vs = dataRefs E st2 ps vs
 | [], _ => by simp [dataRefs]
 | tk :: ts, [] => by cases tk <;> simp [dataRefs]
 | tk :: ts, v :: vs => by cases tk <;> simp [dataRefs, dataRefs_cong ts vs]
theorem dataRefs_in : ∀ (ps : List TK) (vs : List (DVal E.T)), ∀ k ∈ dataRefs E st ps vs, k ∈ refsL vs
 | [], _, k, h => by simp [dataRefs] at h
 | tk :: ts, [], k, h => by cases tk <;> simp [dataRefs] at h
 | tk :: ts, v :: vs, k, h => by
  cases tk <;> simp only [dataRefs, List.mem_append] at h <;> unfold refsL
  ·rcases h with h | h
   ·exact List.mem_append_left _ h
   ·exact List.mem_append_right _ (dataRefs_in ts vs k h)
  all_goals exact List.mem_append_right _ (dataRefs_in ts vs k h)
theorem dargsF_refs : ∀ (ps : List TK) (vs ds : List (DVal E.T)), dargsF E st ps vs = some ds → ∀ k ∈ refsL ds, k ∈ refsL vs
 | [], [], ds, h, k, hk => by cases h; exact hk
 | [], _ :: _, ds, h, k, hk => by cases h
 | tk :: ts, [], ds, h, k, hk => by cases tk <;> cases h
 | tk :: ts, v :: vs, ds, h, k, hk => by
  have ih := fun ds h => dargsF_refs ts vs ds h k
  cases tk with
  | data t =>
   simp only [dargsF] at h
   split at h
   ·split at h
    ·rename_i r hr
     cases h
     simp only [refsL, refs, List.nil_append] at hk
     unfold refsL
     exact List.mem_append_right _ (ih r hr hk)
    ·cases h
   ·cases h
  | other => cases h
  | _ =>
   simp only [dargsF] at h
   split at h
   ·split at h
    ·rename_i r hr
     cases h
     unfold refsL at hk ⊢
     rcases List.mem_append.1 hk with hk | hk
     ·exact List.mem_append_left _ hk
     ·exact List.mem_append_right _ (ih r hr hk)
    ·cases h
   ·cases h
theorem callLoc_cong {L fx : List Nat} {ds : List (DVal E.T)} {F : List (DVal E.T) → St E.T → Tree (Res E.T × St E.T)} (hc : ∀ k ∈ L, ∀ j ∈ objAt E st k, j ∈ L) (h : AgreeOn L st st2) (hl : st.length = st2.length) (hds : ∀ k ∈ refsL ds, k ∈ L) :
  callLoc E st fx ds F = callLoc E st2 fx ds F := by
 unfold callLoc
 rw [← reach_cong hc h 1000 (refsL ds) [] hds]
 have hR : AgreeOn (reach E st 1000 (refsL ds) []) st st2 := h.mono (reach_in hc 1000 _ _ hds (fun k hk => by cases hk))
 generalize reach E st 1000 (refsL ds) [] = R at *
 simp only
 rw [closedB_cong hR hl, locSt_cong hR, movers_cong hR, hl]
 congr 1
 congr 1
 funext p
 rw [unfixL_cong _ hR]
theorem callRd_cong {L : List Nat} {ds : List (DVal E.T)} {F : List (DVal E.T) → St E.T → Tree (Res E.T × St E.T)} (hc : ∀ k ∈ L, ∀ j ∈ objAt E st k, j ∈ L) (h : AgreeOn L st st2) (hl : st.length = st2.length) (hds : ∀ k ∈ refsL ds, k ∈ L) :
  callRd E st ds F = callRd E st2 ds F := by
 unfold callRd
 rw [← reach_cong hc h 1000 (refsL ds) [] hds]
 have hR : AgreeOn (reach E st 1000 (refsL ds) []) st st2 := h.mono (reach_in hc 1000 _ _ hds (fun k hk => by cases hk))
 generalize reach E st 1000 (refsL ds) [] = R at *
 simp only
 rw [closedB_cong hR hl, locSt_cong hR]
theorem updAll_agree {L : List Nat} : ∀ (l : List (Nat × Obj E.T)) {s s2 : St E.T}, AgreeOn L s s2 → s.length = s2.length → AgreeOn L (updAll E s l) (updAll E s2 l)
 | [], s, s2, h, _ => h
 | p :: r, s, s2, h, hl => by
  simp only [updAll]
  refine updAll_agree r (fun k hk => ?_) (by rw [length_upd, length_upd, hl])
  rw [nth?_upd, nth?_upd, h k hk, hl]
theorem frozen_objAt (ks : List Nat) : ∀ (s0 s : St E.T) (k j : Nat), j ∈ objAt E (updAll E s (frozen E s0 ks)) k → j ∈ objAt E s k := by
 induction ks with
 | nil => intro s0 s k j h; exact h
 | cons a ks ih =>
  intro s0 s k j h
  simp only [frozen] at h
  split at h
  ·simp only [updAll] at h
   have := ih s0 _ k j h
   unfold objAt at this ⊢
   rw [nth?_upd] at this
   by_cases hk : a = k ∧ k < s.length
   ·rw [if_pos hk] at this; simp [objRefs] at this
   ·rw [if_neg hk] at this; exact this
  ·exact ih s0 s k j h
theorem dcallE_cong {S : FuncId → Option (Spec E)} {L fx : List Nat} {f : DVal E.T} {args : List (DVal E.T)} (hc : ∀ k ∈ L, ∀ j ∈ objAt E st k, j ∈ L) (h : AgreeOn L st st2) (hl : st.length = st2.length) (hin : ∀ k ∈ refs f ++ refsL args, k ∈ L) :
  dcallE E S st fx f args = dcallE E S st2 fx f args := by
 unfold dcallE
 split <;> first | rfl | skip
 rename_i g cap
 have hin2 : ∀ k ∈ refsL (args ++ cap), k ∈ L := by
  intro k hk
  have happ : ∀ (a b : List (DVal E.T)), refsL (a ++ b) = refsL a ++ refsL b := by
   intro a b
   induction a with
   | nil => rfl
   | cons v r ih => simp only [List.cons_append, refsL, ih, List.append_assoc]
  rw [happ] at hk
  refine hin k ?_
  rcases List.mem_append.1 hk with hk | hk
  ·exact List.mem_append_right _ hk
  ·exact List.mem_append_left _ (by unfold refs; exact hk)
 have hown : AgreeOn (ownsL (args ++ cap)) st st2 := h.mono fun k hk => hin2 k (ownsL_refs _ k hk)
 generalize args ++ cap = vs at *
 split <;> first | rfl | skip
 ·rename_i ps F _
  rw [← dargs_cong ps vs hown, ← live_cong (h.mono hin2)]
  have hf : AgreeOn (live E st (refsL vs)) st st2 := h.mono fun k hk => hin2 k (live_mem.1 hk).1
  have hfz := frozen_cong (E := E) hf
  generalize live E st (refsL vs) = ks at *
  cases ks with
  | nil => rfl
  | cons a r => simp only; rw [hfz]
 ·rename_i ps flat F _
  rw [← dargsF_cong ps vs hown]
  cases hds : dargsF E st ps vs with
  | none => rfl
  | some ds =>
   have hd := fun k hk => hin2 k (dargsF_refs ps vs ds hds k hk)
   simp only
   cases flat with
   | true => exact callRd_cong hc h hl hd
   | false =>
    simp only
    have hlv : AgreeOn (dataRefs E st ps vs) st st2 := h.mono fun k hk => hin2 k (dataRefs_in ps vs k hk)
    rw [← dataRefs_cong (st := st) (st2 := st2) ps vs, ← live_cong hlv]
    have hf : AgreeOn (live E st (dataRefs E st ps vs)) st st2 := hlv.mono fun k hk => (live_mem.1 hk).1
    generalize live E st (dataRefs E st ps vs) = ks at *
    have hfz := frozen_cong (E := E) hf
    split
    ·exact callLoc_cong hc h hl hd
    ·rw [← hfz]
     rw [callLoc_cong (L := L) (fun k hk j hj => hc k hk j (frozen_objAt _ _ _ k j hj)) (updAll_agree _ h hl) (by rw [length_updAll, length_updAll, hl]) hd]
theorem ownsL_map {ev : Operand → DVal E.T} {xs : List Operand} {x : Operand} (hx : x ∈ xs) : ∀ k ∈ owns (ev x), k ∈ ownsL (xs.map ev) := fun k hk => owns_mem (List.mem_map.2 ⟨x, hx, rfl⟩) k hk
theorem dval_st {ev : Operand → DVal E.T} (o : Op) (hn : ∀ t a, o ≠ .load t a) (hc : ∀ s d x, o = .convert s d x → ∀ e, E.tk d ≠ .data (.slice e)) (h : AgreeOn (ownsL (o.operands.toList.map ev)) st st2) : dval E ev st o = dval E ev st2 o := by
 have one : ∀ {x : Operand}, x ∈ o.operands → AgreeOn (owns (ev x)) st st2 := fun hx => h.mono (ownsL_map (by simpa using hx))
 cases o with
 | build t ps =>
  simp only [dval]
  refine dbuild_cong t _ ?_
  simpa [Op.operands, List.map_map, Function.comp_def] using h
 | load t a => exact absurd rfl (hn t a)
 | binOp op t x y p =>
  simp only [dval]
  rw [dbin_cong op t _ _ (one (x := x) (by simp [Op.operands])) (one (x := y) (by simp [Op.operands]))]
 | convert s d x =>
  simp only [dval]
  split
  ·rfl
  ·exact dconv_cong s d _ (hc s d x rfl) (one (x := x) (by simp [Op.operands]))
 | makeSlice t l c => simp only [dval]; exact makeSlice_cong t _ _
 | slice t x lo hi mx =>
  simp only [dval]
  split
  ·rfl
  ·rfl
  ·rename_i h1 h2
   exact dslice_cong t _ _ _ _ (fun k => h1 k) (fun o p => h2 o p)
 | indexAddr t x i =>
  simp only [dval]
  exact dindexAddr_cong t _ _ (one (x := x) (by simp [Op.operands]))
 | call c =>
  obtain ⟨callee, args, ats⟩ := c
  cases callee with
  | builtin b =>
   simp only [dval]
   have hargs : AgreeOn (ownsL (args.toList.map ev)) st st2 := by simpa [Op.operands, Call.operands] using h
   generalize args.toList.map ev = vs at hargs
   split <;> first | rfl | skip
   exact dlen_cong _ _ (hargs.mono fun k hk => by simp [ownsL, hk])
  | _ => rfl
 | makeFunc fn first captured => cases fn <;> rfl
 | typeAssert x xt t ok => cases ok <;> rfl
 | _ => rfl
end
open Go
noncomputable section
section
variable {E : Env} {st st2 : St E.T}
theorem nth_refs : ∀ (fs : List (DVal E.T)) (j : Nat), ∀ k ∈ refs (nth fs j .undef), k ∈ refsL fs
 | [], j, k, h => by simp [nth_nil, nth_zero, nth_succ, refs] at h
 | v :: r, 0, k, h => by simp only [nth_nil, nth_zero, nth_succ] at h; unfold refsL; exact List.mem_append_left _ h
 | v :: r, j + 1, k, h => by simp only [nth_nil, nth_zero, nth_succ] at h; unfold refsL; exact List.mem_append_right _ (nth_refs r j k h)
theorem hlL_refs : ∀ (ts : List Ty) (x : HL E.T ts) (j : Nat), refs (nth (hlL E ts x) j .undef) = []
 | [], x, j => by simp [hlL, nth_nil, nth_zero, nth_succ, refs]
 | t :: ts, x, 0 => by simp [hlL, nth_nil, nth_zero, nth_succ, refs]
 | t :: ts, x, j + 1 => by simp only [hlL, nth_nil, nth_zero, nth_succ]; exact hlL_refs ts x.2 j
theorem explode_refs {d : DVal E.T} {i : Nat} {fs : List (DVal E.T)} (h : explode E d = some (i, fs)) (j : Nat) : ∀ k ∈ refs (nth fs j .undef), k ∈ refs d := by
 intro k hk
 cases d with
 | val t x =>
  cases t with
  | named i' =>
   simp only [explode, Option.some.injEq, Prod.mk.injEq] at h
   obtain ⟨rfl, rfl⟩ := h
   unfold parts at hk
   rw [hlL_refs] at hk
   cases hk
  | _ => cases h
 | agg i' fs' =>
  simp only [explode, Option.some.injEq, Prod.mk.injEq] at h
  obtain ⟨rfl, rfl⟩ := h
  unfold refs
  exact nth_refs _ j k hk
 | _ => cases h
theorem setP_cong {ok ok2 : DVal E.T → Bool} (v : DVal E.T) : ∀ (p : List Step) (d : DVal E.T), (∀ d', (∀ k ∈ owns d', k ∈ refs d) → ok d' = ok2 d') → setP E ok v p d = setP E ok2 v p d
 | [], d, h => by simp only [setP]; rw [h d (owns_refs d)]
 | .fld i j :: p, d, h => by
  simp only [setP]
  split
  ·rename_i i' fs he
   rw [setP_cong v p _ (fun d' hd => h d' (fun k hk => explode_refs he j k (hd k hk)))]
  ·rfl
 | .idx e n :: p, d, h => by
  cases d with
  | val t x =>
   cases t with
   | arr m e' =>
    simp only [setP]
    congr 1
    congr 1
    funext y
    rw [setP_cong v p _ (fun d' hd => h d' (fun k hk => by have := hd k hk; simp [refs] at this))]
   | _ => rfl
  | _ => rfl
theorem setO_cong {ok ok2 : DVal E.T → Bool} (v : DVal E.T) (p : List Step) (ob : Obj E.T) (h : ∀ d', (∀ k ∈ owns d', k ∈ objRefs E ob) → ok d' = ok2 d') : setO E ok v ob p = setO E ok2 v ob p := by
 cases ob with
 | box ro c =>
  cases ro with
  | false => simp only [setO]; rw [setP_cong v p c h]
  | true => rfl
 | arr l e xs =>
  cases p with
  | nil => rfl
  | cons s p =>
   cases s with
   | fld i j => rfl
   | idx e' n =>
    simp only [setO]
    congr 1
    congr 1
    funext y
    rw [setP_cong v p _ (fun d' hd => h d' (fun k hk => by have := hd k hk; simp [refs] at this))]
 | dead => rfl
mutual
theorem datV_cong : ∀ (d : DVal E.T), AgreeOn (owns d) st st2 → datV E st 0 d = datV E st2 0 d
 | .own k, h => by simp only [datV]; rw [h k (by simp [owns])]
 | .agg i fs, h => by simp only [datV]; rw [datL_cong fs (by simpa only [owns] using h)]
 | .val _ _, _ => rfl
 | .nils, _ => rfl
 | .ptr _ _, _ => rfl
 | .nilptr, _ => rfl
 | .rptr _ _, _ => rfl
 | .tup _, _ => rfl
 | .fn _ _, _ => rfl
 | .nilfn, _ => rfl
 | .ifc _ _, _ => rfl
 | .nilifc, _ => rfl
 | .stale _, _ => rfl
 | .undef, _ => rfl
theorem datL_cong : ∀ (ds : List (DVal E.T)), AgreeOn (ownsL ds) st st2 → datL E st 0 ds = datL E st2 0 ds
 | [], _ => rfl
 | v :: r, h => by
  simp only [datL]
  rw [datV_cong v (h.mono fun k hk => by unfold ownsL; exact List.mem_append_left _ hk), datL_cong r (h.mono fun k hk => by unfold ownsL; exact List.mem_append_right _ hk)]
end
theorem updAll_keys_at : ∀ (l : List (Nat × Obj E.T)) (s s2 : St E.T) (k : Nat), nth? s k = nth? s2 k → nth? (updAll E s l) k = nth? (updAll E s2 l) k
 | [], s, s2, k, h => h
 | p :: r, s, s2, k, h => by
  simp only [updAll]
  refine updAll_keys_at r _ _ k ?_
  rw [nth?_upd, nth?_upd]
  by_cases hk : p.1 = k
  ·subst hk
   by_cases hl : p.1 < s.length
   ·have : p.1 < s2.length := by
     have h1 : nth? s p.1 = some s[p.1] := by rw [nth?_eq]; exact List.getElem?_eq_getElem hl
     rw [h1] at h
     exact nth?_lt h.symm
    rw [if_pos ⟨rfl, hl⟩, if_pos ⟨rfl, this⟩]
   ·have : ¬ p.1 < s2.length := fun h2 => hl (by
     have h1 : nth? s2 p.1 = some s2[p.1] := by rw [nth?_eq]; exact List.getElem?_eq_getElem h2
     rw [h1] at h
     exact nth?_lt h)
    rw [if_neg (fun h => hl h.2), if_neg (fun h => this h.2)]; exact h
  ·rw [if_neg (fun h => hk h.1), if_neg (fun h => hk h.1)]; exact h
theorem freeze_cong {ks : List Nat} (h : AgreeOn ks st st2) : AgreeOn ks (freeze E st ks) (freeze E st2 ks) := by
 intro k hk
 rw [← updAll_frozen, ← updAll_frozen, ← frozen_cong h]
 exact updAll_keys_at _ _ _ k (h k hk)
structure Mov (E : Env) (ev : Operand → DVal E.T) (st : St E.T) (id : Nat) (o : Op) (e : Eff E.T) : Prop where
 val : ∃ v, e.res = .val v
 ks : e.ks = []
 news : e.news = []
 ups : e.ups = [] ∨ ∃ ob, e.ups = [(id, ob)] ∧ nth? st id = some .dead ∧ isDead ob = false ∧ (∀ k ∈ objRefs E ob, k ∈ refsL (o.operands.toList.map ev)) ∧ makes E o = true ∧ id ∈ effRefs E e.res
theorem mov_val {ev : Operand → DVal E.T} {id : Nat} {o : Op} {v : DVal E.T} : Mov E ev st id o (eVal E v) := ⟨⟨v, rfl⟩, rfl, rfl, .inl rfl⟩
theorem bind_eVal {t : Tree (DVal E.T)} {e : Eff E.T} (h : (t.bind fun v => .ret (eVal E v)).get = some e) : ∃ v, t.get = some v ∧ e = eVal E v := by
 obtain ⟨v, h1, h2⟩ := Tree.get_bind_some h
 cases h2
 exact ⟨v, h1, rfl⟩
theorem zeroD_refs : ∀ (n : Nat) (t : Ty), refs (zeroD E n t) = []
 | 0, t => by simp [zeroD, refs]
 | n + 1, t => by
  cases t with
  | arr m e => simp only [zeroD]; split <;> simp [refs]
  | named i =>
   simp only [zeroD]
   unfold refs
   have : ∀ ts : List Ty, refsL (ts.map (zeroD E n)) = [] := by
    intro ts
    induction ts with
    | nil => rfl
    | cons t ts ih => simp only [List.map_cons, refsL, zeroD_refs n t, ih, List.append_nil]
   exact this _
  | _ => simp [zeroD, refs]
theorem zeroV_refs (t : TypeId) : refs (zeroV E t) = [] := by
 unfold zeroV
 split <;> first | exact zeroD_refs _ _ | simp [refs]
theorem deadAt {i : Nat} (h : isDeadAt E st i = true) : nth? st i = some .dead := by
 unfold isDeadAt at h
 split at h
 ·assumption
 ·cases h
theorem deff_mov {S : FuncId → Option (Spec E)} {fx : List Nat} {ev : Operand → DVal E.T} {id : Nat} {o : Op} {e : Eff E.T} (hm : movable E ev o = true) (h : (deff E S fx ev st id o).get = some e) : Mov E ev st id o e := by
 cases o with
 | alloc t =>
  simp only [deff] at h
  split at h
  ·cases h
  ·obtain ⟨hd, h⟩ := Tree.get_need h
   cases h
   exact ⟨⟨_, rfl⟩, rfl, rfl, .inr ⟨_, rfl, deadAt hd, rfl, (fun k hk => by simp only [objRefs, zeroV_refs] at hk; cases hk), rfl, by simp [effRefs, refs]⟩⟩
 | box t v =>
  simp only [deff] at h
  obtain ⟨hd, h⟩ := Tree.get_need h
  cases h
  rw [Bool.and_eq_true] at hd
  exact ⟨⟨_, rfl⟩, rfl, rfl, .inr ⟨_, rfl, deadAt hd.1, rfl, (fun k hk => by simpa [Op.operands, objRefs, refsL] using hk), rfl, by simp [effRefs, refs]⟩⟩
 | convert s d x =>
  simp only [deff] at h
  split at h
  ·rename_i hd'
   split at h
   ·obtain ⟨hd, h⟩ := Tree.get_need h
    cases h
    rw [Bool.and_eq_true] at hd
    exact ⟨⟨_, rfl⟩, rfl, rfl, .inr ⟨_, rfl, deadAt hd.2, rfl, (fun k hk => by simp [objRefs] at hk), by simp only [makes, isSl, hd'], by simp [effRefs, refs]⟩⟩
   ·cases h
  ·obtain ⟨v, _, rfl⟩ := bind_eVal h; exact mov_val
 | store t a v => cases hm
 | makeSlice t l c =>
  simp only [deff] at h
  obtain ⟨p, hp, h⟩ := Tree.get_bind_some h
  split at h
  ·obtain ⟨hd, h⟩ := Tree.get_need h
   cases h
   exact ⟨⟨_, rfl⟩, rfl, rfl, .inr ⟨_, rfl, deadAt hd, rfl, (fun k hk => by simp [objRefs] at hk), rfl, by simp [effRefs, refs]⟩⟩
  ·cases h
 | buildSlice t n ps =>
  simp only [movable, List.isEmpty_iff] at hm
  simp only [deff, hm] at h
  obtain ⟨v, _, rfl⟩ := bind_eVal h; exact mov_val
 | call c =>
  obtain ⟨callee, args, ats⟩ := c
  cases callee with
  | value f => cases hm
  | invoke r m => cases hm
  | builtin b =>
   cases b <;> first | (cases hm; done) | (simp only [deff] at h; obtain ⟨v, _, rfl⟩ := bind_eVal h; exact mov_val)
 | _ => simp only [deff] at h; obtain ⟨v, _, rfl⟩ := bind_eVal h; exact mov_val
theorem deff_st {S : FuncId → Option (Spec E)} {fx : List Nat} {ev : Operand → DVal E.T} {id : Nat} {o : Op} {e : Eff E.T} (h : (deff E S fx ev st id o).get = some e) (hk : lookOk E ev st o = true) (ha : AgreeOn (look E ev st id o e) st st2)
  (hl : movable E ev o = true ∨ st.length = st2.length) : (deff E S fx ev st2 id o).get = some e ∧ lookOk E ev st2 o = true ∧ look E ev st2 id o e = look E ev st id o e := by
 have viaVal : ∀ (o : Op), (∀ t a, o ≠ .load t a) → (∀ s d x, o = .convert s d x → ∀ e, E.tk d ≠ .data (.slice e)) → AgreeOn (ownsL (o.operands.toList.map ev)) st st2 → ((dval E ev st o).bind fun v => .ret (eVal E v)).get = some e → ((dval E ev st2 o).bind fun v => .ret (eVal E v)).get = some e := by
  intro o h1 h2 h3 h4
  rw [← dval_st o h1 h2 h3]; exact h4
 have arrs : ∀ L : List Nat, AgreeOn L st st2 → L.all (isArr E st) = L.all (isArr E st2) := by
  intro L
  induction L with
  | nil => intro _; rfl
  | cons k L ih =>
   intro h
   simp only [List.all_cons]
   rw [ih (h.mono fun j hj => by simp [hj])]
   unfold isArr
   rw [h k (by simp)]
 have free : ∀ (o : Op), dval E ev st o = dval E ev st2 o → ((dval E ev st o).bind fun v => .ret (eVal E v)).get = some e → ((dval E ev st2 o).bind fun v => .ret (eVal E v)).get = some e := fun o h1 h2 => by rw [← h1]; exact h2
 cases o with
 | move x => exact ⟨h, rfl, rfl⟩
 | assign x => exact ⟨h, rfl, rfl⟩
 | alloc t =>
  refine ⟨?_, rfl, rfl⟩
  simp only [deff] at h ⊢
  have : isDeadAt E st2 id = isDeadAt E st id := by unfold isDeadAt; rw [ha id (by simp [look])]
  rw [this]; exact h
 | box t v =>
  refine ⟨?_, by simp only [lookOk] at hk ⊢; rw [← arrs _ (ha.mono fun k hk => by simp [look, hk])]; exact hk, rfl⟩
  simp only [deff] at h ⊢
  have : isDeadAt E st2 id = isDeadAt E st id := by unfold isDeadAt; rw [ha id (by simp [look])]
  rw [this, ← fits_cong (st := st) (st2 := st2) t (ev v) (ha.mono fun k hk => by simp [look, hk])]; exact h
 | convert s d x =>
  refine ⟨?_, by simp only [lookOk] at hk ⊢; rw [← arrs _ (ha.mono fun k hk => by simp [look, hk])]; exact hk, rfl⟩
  simp only [deff] at h ⊢
  split
  ·rename_i hd
   rw [hd] at h
   have : isDeadAt E st2 id = isDeadAt E st id := by unfold isDeadAt; rw [ha id (by simp [look, isSl, hd])]
   rw [this]; exact h
  ·rename_i hd
   have h' : ((dval E ev st (.convert s d x)).bind fun v => .ret (eVal E v)).get = some e := by
    split at h
    ·rename_i hd2; exact absurd hd2 hd
    ·exact h
   by_cases hsl : ∃ e, E.tk d = .data (.slice e)
   ·obtain ⟨e', he⟩ := hsl
    simp only [dval, he] at h'
    cases h'
   ·exact viaVal _ (fun t a hh => by cases hh) (fun s' d' x' hh e' he => by cases hh; exact hsl ⟨e', he⟩) (ha.mono fun k hk => by
     have : k ∈ owns (ev x) := by simpa [Op.operands, ownsL] using hk
     simp [look, this]) h'
 | makeSlice t l c =>
  refine ⟨?_, by simp only [lookOk] at hk ⊢; rw [← arrs _ (ha.mono fun k hk => by simp only [look]; exact List.mem_cons_of_mem _ hk)]; exact hk, rfl⟩
  simp only [deff] at h ⊢
  have hd : isDeadAt E st2 id = isDeadAt E st id := by unfold isDeadAt; rw [ha id (by simp [look])]
  obtain ⟨p, hp, h⟩ := Tree.get_bind_some h
  have hp2 : (dmakeSlice E true st2 t (ev l) (ev c)).get = some (p.1, st2) := by
   have h1 := makeSlice_cong (st := st) (st2 := st2) t (ev l) (ev c)
   have h2 : ((dmakeSlice E true st2 t (ev l) (ev c)).bind fun p => Tree.ret p.1).get = some p.1 := by rw [← h1, Tree.get_bind, hp]; rfl
   obtain ⟨q, hq, h3⟩ := Tree.get_bind_some h2
   have h4 : q.1 = p.1 := Option.some.inj h3
   rw [hq, ← h4]
   have : q.2 = st2 := by
    unfold dmakeSlice at hq
    split at hq
    ·obtain ⟨_, h⟩ := ite_get hq
     obtain ⟨z, _, h⟩ := Tree.get_bind_some h
     cases h; rfl
    ·cases hq
   rw [← this]
  rw [Tree.get_bind, hp2]
  simp only [Option.bind_some, hd]
  exact h
 | buildSlice t n ps =>
  have ha' : AgreeOn (ownsL (ps.toList.map fun x => ev x.2)) st st2 := by
   have : look E ev st id (.buildSlice t n ps) e = ownsL (ps.toList.map fun x => ev x.2) := by simp [look, Op.operands, Function.comp_def]
   rwa [this] at ha
  refine ⟨?_, by simp only [lookOk] at hk ⊢; rw [← arrs _ (by simpa only [look] using ha)]; exact hk, rfl⟩
  simp only [deff] at h ⊢
  split at h
  ·exact viaVal _ (fun t a hh => by cases hh) (fun s d x hh => by cases hh) (by simpa only [look] using ha) h
  ·rename_i k r hks
   rw [hks] at ha'
   have hfr : frozen E st2 (k :: r) = frozen E st (k :: r) := (frozen_cong ha').symm
   have hdat : ∀ x ∈ ps.toList, datV E (freeze E st2 (k :: r)) 0 (ev x.2) = datV E (freeze E st (k :: r)) 0 (ev x.2) := fun x hx =>
    (datV_cong (ev x.2) ((freeze_cong ha').mono fun j hj => by rw [← hks]; exact owns_mem (List.mem_map.2 ⟨x, hx, rfl⟩) j hj)).symm
   have hmap : (ps.toList.map fun x => (x.1, datV E (freeze E st2 (k :: r)) 0 (ev x.2))) = ps.toList.map fun x => (x.1, datV E (freeze E st (k :: r)) 0 (ev x.2)) := List.map_congr_left fun x hx => by rw [hdat x hx]
   rw [hfr, hmap]
   exact h
 | store t a v =>
  simp only [deff] at h ⊢
  have hlvc : AgreeOn (refs (ev v)) st st2 → live E st2 (rowsOf E (ev a) (ev v)) = live E st (rowsOf E (ev a) (ev v)) := by
   intro hag
   unfold live
   refine List.filter_congr fun x hx => ?_
   rw [hag x]
   unfold rowsOf at hx
   split at hx
   ·rename_i p _
    cases hi : hasIdx p with
    | true => rw [hi] at hx; exact hx
    | false => rw [hi] at hx; cases hx
   ·cases hx
  split at h
  ·rename_i hlv
   split at h
   ·rename_i k p hev
    have hlk : ∀ s : St E.T, look E ev s id (.store t a v) e = k :: (objAt E s k ++ refs (ev v)) := fun s => by simp only [look, hev]
    rw [hlk] at ha
    have hk' := ha k (by simp)
    refine ⟨?_, rfl, by rw [hlk, hlk, objAt_cong hk']⟩
    have hl2 := hlvc (ha.mono fun j hj => by simp [hj])
    rw [hl2, hlv]
    simp only
    rw [← hk']
    split at h
    ·rename_i b hb
     rw [← fits_cong (st := st) (st2 := st2) t (ev v) (ha.mono fun j hj => by simp [owns_refs _ j hj])]
     rw [← setO_cong (ok := fitsOld E st t) (ok2 := fitsOld E st2 t) (ev v) p b (fun d' hd => fitsOld_cong t d' (ha.mono fun j hj => by
      have := hd j hj
      have h2 : j ∈ objAt E st k := by unfold objAt; rw [hb]; exact this
      simp [h2]))]
     exact h
    ·cases h
   ·cases h
  ·rename_i k r hlv
   split at h
   ·rename_i q p hev
    have hlk : ∀ s : St E.T, look E ev s id (.store t a v) e = q :: (objAt E s q ++ refs (ev v)) := fun s => by simp only [look, hev]
    rw [hlk] at ha
    have hq' := ha q (by simp)
    have hag : AgreeOn (refs (ev v)) st st2 := ha.mono fun j hj => by simp [hj]
    refine ⟨?_, rfl, by rw [hlk, hlk, objAt_cong hq']⟩
    have hl2 := hlvc hag
    rw [hl2, hlv]
    simp only
    have hks : AgreeOn (k :: r) st st2 := fun j hj => hag j (by
     have h1 : j ∈ live E st (rowsOf E (ev a) (ev v)) := by rw [hlv]; exact hj
     have h2 := (List.mem_filter.1 h1).1
     rw [hev] at h2
     simp only [rowsOf] at h2
     cases hi : hasIdx p with
     | true => rw [hi] at h2; exact h2
     | false => rw [hi] at h2; cases h2)
    have hfz : ∀ j, nth? st j = nth? st2 j → nth? (freeze E st (k :: r)) j = nth? (freeze E st2 (k :: r)) j := fun j hj => by
     rw [← updAll_frozen, ← updAll_frozen, ← frozen_cong hks]
     exact updAll_keys_at _ _ _ j hj
    have hdat : datV E (freeze E st2 (k :: r)) 0 (ev v) = datV E (freeze E st (k :: r)) 0 (ev v) := (datV_cong (ev v) fun j hj => hfz j (hag j (owns_refs _ j hj))).symm
    rw [hdat, ← hfz q hq', ← frozen_cong hks]
    split at h
    ·rename_i l e' xs hb
     obtain ⟨hn, h⟩ := Tree.get_need h
     have hn2 := hn
     simp only [Bool.and_eq_true] at hn
     have hem : owns (datV E (freeze E st (k :: r)) 0 (ev v)) = [] := List.isEmpty_iff.1 hn.2
     rw [← fits_cong (st := freeze E st (k :: r)) (st2 := freeze E st2 (k :: r)) t (datV E (freeze E st (k :: r)) 0 (ev v)) (by rw [hem]; intro j hj; cases hj)]
     rw [← setO_cong (ok := fitsOld E (freeze E st (k :: r)) t) (ok2 := fitsOld E (freeze E st2 (k :: r)) t) (datV E (freeze E st (k :: r)) 0 (ev v)) p (.arr l e' xs) (fun d' hd => fitsOld_cong t d' fun j hj => by
      have := hd j hj
      cases this)]
     rw [hn2]
     exact h
    ·cases h
   ·cases h
 | load t a =>
  simp only [deff] at h ⊢
  obtain ⟨v, hv, rfl⟩ := bind_eVal h
  simp only [dval] at hv ⊢
  refine ⟨?_, rfl, rfl⟩
  have key : (dload E st2 t (ev a)).get = some v := by
   unfold dload at hv ⊢
   split at hv
   ·rename_i k p hev
    have ha' : AgreeOn (k :: refs v) st st2 := by
     have : look E ev st id (.load t a) (eVal E v) = k :: refs v := by simp only [look, hev, eVal]
     rwa [this] at ha
    rw [← ha' k (by simp)]
    split at hv
    ·rename_i b hb
     obtain ⟨v', h1, h2⟩ := Tree.get_bind_some hv
     obtain ⟨hf, h2⟩ := Tree.get_need h2
     cases h2
     rw [Tree.get_bind, h1]
     simp only [Option.bind_some]
     rw [← fits_cong (st := st) (st2 := st2) t v (ha'.mono fun j hj => by simp [owns_refs _ j hj]), hf]
     rfl
    ·cases hv
   ·exact hv
   ·cases hv
  rw [Tree.get_bind, key]; rfl
 | call c =>
  obtain ⟨callee, args, ats⟩ := c
  cases callee with
  | value f =>
   have hl := hl.resolve_left (by simp [movable])
   simp only [lookOk, Bool.and_eq_true] at hk
   have hc := closed_of hk.1
   simp only [look] at ha
   have hin : ∀ k ∈ callRefs E ev f args, k ∈ reach E st 1000 (callRefs E ev f args) [] := by
    intro k hk'
    have := hk.2
    rw [List.all_eq_true] at this
    exact (memB_iff _ k).1 (this k hk')
   have hcl : ∀ k ∈ reach E st 1000 (callRefs E ev f args) [], ∀ j ∈ objAt E st k, j ∈ reach E st 1000 (callRefs E ev f args) [] := by
    intro k hk' j hj
    unfold objAt at hj
    split at hj
    ·rename_i ob hob; exact hc.obj k hk' ob hob j hj
    ·cases hj
   have hr := reach_cong hcl ha 1000 (callRefs E ev f args) [] hin
   refine ⟨?_, ?_, ?_⟩
   ·simp only [deff] at h ⊢
    rw [← dcallE_cong hcl ha hl hin]; exact h
   ·simp only [lookOk, Bool.and_eq_true]
    rw [← hr, ← closedB_cong ha hl]
    exact hk
   ·simp only [look]; exact hr.symm
  | invoke r m => simp only [deff] at h; cases h
  | builtin b =>
   have hlk : ∀ s : St E.T, look E ev s id (.call { callee := .builtin b, args := args, argTypes := ats }) e = ownsL (args.toList.map ev) := fun s => by simp [look, Op.operands, Call.operands]
   rw [hlk] at ha
   refine ⟨?_, by simp only [lookOk, Op.operands, Call.operands] at hk ⊢; rw [← arrs _ (by simpa using ha)]; exact hk, by rw [hlk, hlk]⟩
   have hdv := fun hh => viaVal (.call { callee := .builtin b, args := args, argTypes := ats }) (fun t a hh => by cases hh) (fun s d x hh => by cases hh) (by simpa [Op.operands, Call.operands] using ha) hh
   cases b <;> simp only [deff] at h hdv ⊢ <;> first | exact hdv h | skip
   have hl := hl.resolve_left (by simp [movable])
   clear hdv
   split at h
   ·rename_i s x t tx hargs hats
    rw [hargs] at ha
    split at h
    ·unfold dappend at h ⊢
     simp only at h ⊢
     split at h
     ·rename_i e' htk
      rw [← appended_cong (st := st) (st2 := st2) tx e' x _ (ha.mono fun k hk => by simp [ownsL, hk])]
      rw [← h]
      congr 1
      refine (appended_bind tx e' x _ _ _ _ (fun ys => ?_)).symm
      simp only [Tree.bind]
      congr 1
      rw [hl]
      simp [List.drop_append, ← hl]
     ·cases h
    ·rename_i k
     have hk' := ha k (by simp [ownsL, owns])
     unfold dappend at h ⊢
     simp only at h ⊢
     rw [← hk']
     split at h
     ·rename_i e' xs hob
      have hlt := nth?_lt hob
      have hlt2 : k < st2.length := by rw [← hl]; exact hlt
      cases hty : isTy E t (.slice e') with
      | false => rw [hty] at h; cases h
      | true =>
       rw [hty] at h
       simp only [Tree.need] at h ⊢
       rw [← appended_cong (st := st) (st2 := st2) tx e' x _ (ha.mono fun j hj => by simp [ownsL, hj])]
       rw [← h]
       congr 1
       refine (appended_bind tx e' x _ _ _ _ (fun ys => ?_)).symm
       simp only [Tree.bind]
       congr 1
       rw [nth?_upd, if_pos ⟨rfl, hlt⟩, nth?_upd, if_pos ⟨rfl, hlt2⟩]
     ·cases h
    ·cases h
   ·cases h
 | _ =>
  refine ⟨?_, by simp only [lookOk] at hk ⊢; rw [← arrs _ (by simpa only [look] using ha)]; exact hk, rfl⟩
  simp only [deff] at h ⊢
  exact viaVal _ (fun t a hh => by cases hh) (fun s d x hh => by cases hh) (by simpa only [look] using ha) h
end
end
open Go
noncomputable section
section
variable {E : Env} {st st1 st2 : St E.T}
mutual
theorem kill_disj (ks : List Nat) : ∀ (d : DVal E.T), (∀ k ∈ refs d, k ∉ ks) → kill E st ks d = d
 | .own k, h => by unfold kill; rw [memB_false.2 (h k (by simp [refs]))]; rfl
 | .ptr o p, h => by unfold kill; rw [memB_false.2 (h o (by simp [refs]))]; rfl
 | .agg i fs, h => by unfold kill; rw [killL_disj ks fs (fun k hk => h k (by unfold refs; exact hk))]
 | .tup fs, h => by unfold kill; rw [killL_disj ks fs (fun k hk => h k (by unfold refs; exact hk))]
 | .fn f fs, h => by unfold kill; rw [killL_disj ks fs (fun k hk => h k (by unfold refs; exact hk))]
 | .ifc t v, h => by unfold kill; rw [kill_disj ks v (fun k hk => h k (by unfold refs; exact hk))]
 | .val t x, h => by unfold kill; rfl
 | .nils, h => by unfold kill; rfl
 | .nilptr, h => by unfold kill; rfl
 | .rptr t x, h => by unfold kill; rfl
 | .nilfn, h => by unfold kill; rfl
 | .nilifc, h => by unfold kill; rfl
 | .stale e, h => by unfold kill; rfl
 | .undef, h => by unfold kill; rfl
theorem killL_disj (ks : List Nat) : ∀ (ds : List (DVal E.T)), (∀ k ∈ refsL ds, k ∉ ks) → killL E st ks ds = ds
 | [], h => by unfold killL; rfl
 | d :: r, h => by
  unfold killL
  rw [kill_disj ks d (fun k hk => h k (by unfold refsL; exact List.mem_append_left _ hk)), killL_disj ks r (fun k hk => h k (by unfold refsL; exact List.mem_append_right _ hk))]
end
mutual
theorem kill_clean (ks : List Nat) : ∀ (d : DVal E.T), clean (kill E st ks d) = true → kill E st ks d = d
 | .own k, h => by
  unfold kill at h ⊢
  cases hb : memB ks k with
  | true => rw [hb] at h; simp only [cond_true] at h; split at h <;> simp [clean] at h
  | false => rfl
 | .ptr o p, h => by
  unfold kill at h ⊢
  cases hb : memB ks o with
  | true => rw [hb] at h; simp [clean] at h
  | false => rfl
 | .agg i fs, h => by unfold kill at h ⊢; unfold clean at h; rw [killL_clean ks fs h]
 | .tup fs, h => by unfold kill at h ⊢; unfold clean at h; rw [killL_clean ks fs h]
 | .fn f fs, h => by unfold kill at h ⊢; unfold clean at h; rw [killL_clean ks fs h]
 | .ifc t v, h => by unfold kill at h ⊢; unfold clean at h; rw [kill_clean ks v h]
 | .val t x, h => by unfold kill; rfl
 | .nils, h => by unfold kill; rfl
 | .nilptr, h => by unfold kill; rfl
 | .rptr t x, h => by unfold kill; rfl
 | .nilfn, h => by unfold kill; rfl
 | .nilifc, h => by unfold kill; rfl
 | .stale e, h => by unfold kill; rfl
 | .undef, h => by unfold kill; rfl
theorem killL_clean (ks : List Nat) : ∀ (ds : List (DVal E.T)), cleanL (killL E st ks ds) = true → killL E st ks ds = ds
 | [], h => by unfold killL; rfl
 | d :: r, h => by
  unfold killL at h ⊢
  unfold cleanL at h
  rw [Bool.and_eq_true] at h
  rw [kill_clean ks d h.1, killL_clean ks r h.2]
end
mutual
theorem kill_cong {s s' : St E.T} {ks : List Nat} (h : AgreeOn ks s s') : ∀ (d : DVal E.T), kill E s ks d = kill E s' ks d
 | .own k => by
  unfold kill
  cases hb : memB ks k with
  | true => rw [h k ((memB_iff ks k).1 hb)]
  | false => rfl
 | .ptr o p => by unfold kill; rfl
 | .agg i fs => by unfold kill; rw [killL_cong h fs]
 | .tup fs => by unfold kill; rw [killL_cong h fs]
 | .fn f fs => by unfold kill; rw [killL_cong h fs]
 | .ifc t v => by unfold kill; rw [kill_cong h v]
 | .val t x => by unfold kill; rfl
 | .nils => by unfold kill; rfl
 | .nilptr => by unfold kill; rfl
 | .rptr t x => by unfold kill; rfl
 | .nilfn => by unfold kill; rfl
 | .nilifc => by unfold kill; rfl
 | .stale e => by unfold kill; rfl
 | .undef => by unfold kill; rfl
theorem killL_cong {s s' : St E.T} {ks : List Nat} (h : AgreeOn ks s s') : ∀ (ds : List (DVal E.T)), killL E s ks ds = killL E s' ks ds
 | [] => by unfold killL; rfl
 | d :: r => by unfold killL; rw [kill_cong h d, killL_cong h r]
end
theorem killObj_cong {s s' : St E.T} {ks : List Nat} (h : AgreeOn ks s s') : killObj E s ks = killObj E s' ks := by
 funext ob
 cases ob <;> simp [killObj, kill_cong h]
theorem killObj_disj {ks : List Nat} {ob : Obj E.T} (h : ∀ k ∈ objRefs E ob, k ∉ ks) : killObj E st ks ob = ob := by
 cases ob with
 | box ro c => simp only [killObj]; rw [kill_disj ks c h]
 | _ => rfl
theorem nth_killL (ks : List Nat) : ∀ (ds : List (DVal E.T)) (t : Nat), nth (killL E st ks ds) t .undef = kill E st ks (nth ds t .undef)
 | [], t => by unfold killL kill; rfl
 | d :: r, 0 => by unfold killL; rfl
 | d :: r, t + 1 => by unfold killL; exact nth_killL ks r t
theorem killL_upd (ks : List Nat) : ∀ (ds : List (DVal E.T)) (t : Nat) (v : DVal E.T), killL E st ks (upd ds t v) = upd (killL E st ks ds) t (kill E st ks v)
 | [], t, v => by unfold killL; rfl
 | d :: r, 0, v => by simp [killL, upd_nil, upd_zero, upd_succ]
 | d :: r, t + 1, v => by simp only [killL, upd_nil, upd_zero, upd_succ]; rw [killL_upd ks r t v]
variable {fr : Fr E.T}
theorem nth_upd_ne {α : Type} : ∀ (l : List α) (t t' : Nat) (v d : α), t ≠ t' → nth (upd l t v) t' d = nth l t' d
 | [], t, t', v, d, h => rfl
 | x :: r, 0, 0, v, d, h => absurd rfl h
 | x :: r, 0, t' + 1, v, d, h => rfl
 | x :: r, t + 1, 0, v, d, h => rfl
 | x :: r, t + 1, t' + 1, v, d, h => by simp only [upd_nil, upd_zero, upd_succ, nth_nil, nth_zero, nth_succ]; exact nth_upd_ne r t t' v d (fun e => h (by rw [e]))
theorem upd_comm {α : Type} : ∀ (l : List α) (t t' : Nat) (v v' : α), t ≠ t' → upd (upd l t v) t' v' = upd (upd l t' v') t v
 | [], t, t', v, v', h => rfl
 | x :: r, 0, 0, v, v', h => absurd rfl h
 | x :: r, 0, t' + 1, v, v', h => rfl
 | x :: r, t + 1, 0, v, v', h => rfl
 | x :: r, t + 1, t' + 1, v, v', h => by simp only [upd_nil, upd_zero, upd_succ]; rw [upd_comm r t t' v v' (fun e => h (by rw [e]))]
theorem dget_put {dst : Option Tmp} {v : DVal E.T} {x : Operand} (h : ∀ d, dst = some d → x ≠ .tmp d) : dget E (put E fr dst v) x = dget E fr x := by
 cases dst with
 | none => rfl
 | some d =>
  cases x with
  | tmp t =>
   simp only [dget, put]
   exact nth_upd_ne _ _ _ _ _ (fun e => h d rfl (by rw [e]))
  | _ => rfl
theorem put_comm {d1 d2 : Option Tmp} {v1 v2 : DVal E.T} (h : ∀ d, d1 = some d → d2 ≠ some d) : put E (put E fr d1 v1) d2 v2 = put E (put E fr d2 v2) d1 v1 := by
 cases d1 with
 | none => rfl
 | some a =>
  cases d2 with
  | none => rfl
  | some b =>
   simp only [put]
   rw [upd_comm _ _ _ _ _ (fun e => h a rfl (by rw [e]))]
theorem dget_kill (ks : List Nat) (x : Operand) (hx : ∀ t, x = .tmp t → kill E st ks (nth fr.s t .undef) = nth fr.s t .undef) : dget E (killFr' E st ks fr) x = dget E fr x := by
 rw [killFr_eq]
 cases x with
 | tmp t =>
  simp only [dget, killFr]
  rw [nth_killL]
  exact hx t rfl
 | _ => rfl
theorem kill_put {ks : List Nat} {d : Option Tmp} {v : DVal E.T} (hv : kill E st ks v = v) : killFr' E st ks (put E fr d v) = put E (killFr' E st ks fr) d v := by
 rw [killFr_eq, killFr_eq]
 cases d with
 | none => rfl
 | some t =>
  simp only [put, killFr]
  rw [killL_upd, hv]
theorem killFr'_cong {s s' : St E.T} {ks : List Nat} (h : AgreeOn ks s s') : killFr' E s ks fr = killFr' E s' ks fr := by
 rw [killFr_eq, killFr_eq]
 unfold killFr
 rw [killL_cong h]
 have : (fun x : FuncId × List (DVal E.T) => (x.1, killL E s ks x.2)) = (fun x => (x.1, killL E s' ks x.2)) := funext fun x => by rw [killL_cong h]
 rw [this]
def wantD (E : Env) (all : List Oper) (o : Oper) (fr : Fr E.T) : Option Bool :=
 match o.guard with
 | none => some true
 | some (j, b) => match guardTmp all j with
  | some t => match nth fr.s t .undef with
   | .val .bool c => some (c == b)
   | .tup [] => some false
   | _ => none
  | none => none
theorem guard_want {all : List Oper} {o : Oper} {α : Type} {go pass : Fr E.T → Tree α} {r : α} (h : (guarded E all o.guard fr go pass).get = some r) :
  (wantD E all o fr = some true ∧ (go fr).get = some r) ∨ (wantD E all o fr = some false ∧ (pass fr).get = some r) := by
 unfold guarded at h
 unfold wantD
 split at h
 ·rename_i hg; rw [hg]; exact .inl ⟨rfl, h⟩
 ·rename_i j b hg
  rw [hg]
  split at h
  ·rename_i t ht
   simp only [ht]
   by_cases hn : nth fr.s t .undef = .tup []
   ·rw [hn] at h ⊢
    exact .inr ⟨rfl, h⟩
   ·have h : (match b with | true => onSlot E fr t go pass | false => onSlot E fr t pass go).get = some r := by
     split at h
     ·rename_i h0; exact absurd h0 hn
     ·exact h
    cases b with
    | true =>
     obtain ⟨c, hc, hor⟩ := onSlot_get h
     rw [hc]
     rcases hor with ⟨rfl, h⟩ | ⟨rfl, h⟩
     ·exact .inl ⟨rfl, h⟩
     ·exact .inr ⟨rfl, h⟩
    | false =>
     obtain ⟨c, hc, hor⟩ := onSlot_get h
     rw [hc]
     rcases hor with ⟨rfl, h⟩ | ⟨rfl, h⟩
     ·exact .inr ⟨rfl, h⟩
     ·exact .inl ⟨rfl, h⟩
  ·cases h
theorem looks_guard {all : Array Oper} {o : Oper} {j : Nat} {b : Bool} {t : Tmp} (hg : o.guard = some (j, b)) (ht : guardTmp all.toList j = some t) : t ∈ o.looksAt all := by
 unfold Oper.looksAt
 rw [hg]
 unfold guardTmp at ht
 split at ht
 ·rename_i oj hj
  rw [nth?_eq, Array.getElem?_toList] at hj
  simp [hj, ht]
 ·cases ht
theorem want_put {all : Array Oper} {o : Oper} {dst : Option Tmp} {v : DVal E.T} (h : ∀ d, dst = some d → d ∉ o.looksAt all) : wantD E all.toList o (put E fr dst v) = wantD E all.toList o fr := by
 unfold wantD
 split
 ·rfl
 ·rename_i j b hg
  split
  ·rename_i t ht
   have hne : dget E (put E fr dst v) (.tmp t) = dget E fr (.tmp t) := dget_put (fun d hd e => h d hd (by cases e; exact looks_guard hg ht))
   simp only [dget] at hne
   rw [hne]
  ·rfl
theorem want_kill {all : List Oper} {o : Oper} (ks : List Nat) : wantD E all o (killFr' E st ks fr) = wantD E all o fr := by
 rw [killFr_eq]
 unfold wantD
 split
 ·rfl
 ·rename_i j b hg
  split
  ·rename_i t ht
   simp only [killFr]
   rw [nth_killL]
   generalize nth fr.s t .undef = d
   cases d with
   | own k =>
    unfold kill
    cases hb : memB ks k with
    | false => rfl
    | true =>
     simp only [cond_true]
     have hq : ∀ q : Option (Obj E.T), (match (match q with | some (.arr _ e _) => (.stale e : DVal E.T) | _ => .undef) with | .val .bool c => some (c == b) | .tup [] => some false | _ => none) = (none : Option Bool) := by
      intro q
      cases q with
      | none => rfl
      | some o => cases o <;> rfl
     exact hq _
   | ptr o p =>
    unfold kill
    cases hb : memB ks o <;> rfl
   | tup vs =>
    cases vs with
    | nil => unfold kill; unfold killL; rfl
    | cons x r => unfold kill; unfold killL; rfl
   | _ => unfold kill; rfl
  ·rfl
theorem updAll_upd {id : Nat} {ob : Obj E.T} : ∀ (l : List (Nat × Obj E.T)) (s : St E.T), id ∉ l.map (·.1) → updAll E (upd s id ob) l = upd (updAll E s l) id ob
 | [], s, _ => rfl
 | p :: r, s, h => by
  simp only [updAll]
  simp only [List.map_cons, List.mem_cons, not_or] at h
  rw [upd_comm s id p.1 ob p.2 h.1, updAll_upd r _ h.2]
theorem upd_append {α : Type} : ∀ (l r : List α) (i : Nat) (v : α), i < l.length → upd (l ++ r) i v = upd l i v ++ r
 | [], r, i, v, h => by simp at h
 | x :: l, r, 0, v, h => rfl
 | x :: l, r, i + 1, v, h => by simp only [List.cons_append, upd_nil, upd_zero, upd_succ]; rw [upd_append l r i v (by simpa using h)]
theorem comm_eff {id : Nat} {ob : Obj E.T} {e : Eff E.T} (hid : id < st.length) (h1 : id ∉ e.ups.map (·.1)) (h2 : id ∉ e.ks) (h3 : ∀ k ∈ objRefs E ob, k ∉ e.ks) :
  effSt E (upd st id ob) e = upd (effSt E st e) id ob := by
 have ha : AgreeOn e.ks (upd st id ob) st := fun k hk => by
  rw [nth?_upd, if_neg]
  rintro ⟨rfl, _⟩
  exact h2 hk
 unfold effSt
 rw [addNew_eq, addNew_eq, killSt_eq, killSt_eq, killObj_cong ha, map_upd, killObj_disj h3, updAll_upd _ _ h1, upd_append _ _ _ _ (by rw [length_updAll, List.length_map]; exact hid)]
theorem apply_mov {dst : Option Tmp} {e : Eff E.T} {v : DVal E.T} (hv : e.res = .val v) (hk : e.ks = []) (hn : e.news = []) : applyE E fr st dst e = .next (put E fr dst v) (updAll E st e.ups) := by
 unfold applyE effSt
 rw [hv, hk, hn]
 rfl
def thenPut (out : OpOut E) (dst : Option Tmp) (v : DVal E.T) (ups : List (Nat × Obj E.T)) : OpOut E :=
 match out with
 | .next f s => .next (put E f dst v) (updAll E s ups)
 | .panic u f s => .panic u (put E f dst v) (updAll E s ups)
theorem comm_apply {dm dc : Option Tmp} {v : DVal E.T} {ups : List (Nat × Obj E.T)} {e : Eff E.T} (hd : ∀ d, dm = some d → dc ≠ some d) (hv : ∀ k ∈ refs v, k ∉ e.ks)
  (hu : ups = [] ∨ ∃ id ob, ups = [(id, ob)] ∧ id < st.length ∧ id ∉ e.ups.map (·.1) ∧ id ∉ e.ks ∧ ∀ k ∈ objRefs E ob, k ∉ e.ks) :
  applyE E (put E fr dm v) (updAll E st ups) dc e = thenPut (applyE E fr st dc e) dm v ups := by
 have hkv : kill E st e.ks v = v := kill_disj e.ks v hv
 have hst : effSt E (updAll E st ups) e = updAll E (effSt E st e) ups ∧ killFr' E (updAll E st ups) e.ks (put E fr dm v) = put E (killFr' E st e.ks fr) dm v := by
  rcases hu with rfl | ⟨id, ob, rfl, h1, h2, h3, h4⟩
  ·exact ⟨rfl, kill_put hkv⟩
  ·refine ⟨comm_eff h1 h2 h3 h4, ?_⟩
   have ha : AgreeOn e.ks (updAll E st [(id, ob)]) st := fun k hk => by
    simp only [updAll]
    rw [nth?_upd, if_neg]
    rintro ⟨rfl, _⟩
    exact h3 hk
   rw [killFr'_cong ha]
   exact kill_put hkv
 unfold applyE
 rw [hst.1, hst.2]
 cases e.res with
 | val u =>
  simp only [thenPut]
  rw [put_comm hd]
 | panic u => rfl
end
end
open Go
noncomputable section
section
variable {E : Env} {st st1 st2 : St E.T} {fr fr2 : Fr E.T} {S : FuncId → Option (Spec E)} {fx : List Nat} {all : Array Oper}
theorem look_ev {ev ev2 : Operand → DVal E.T} {id : Nat} {e : Eff E.T} (o : Op) (h : ∀ x ∈ o.operands, ev x = ev2 x) : look E ev st id o e = look E ev2 st id o e := by
 have hmap : o.operands.toList.map ev = o.operands.toList.map ev2 := List.map_congr_left fun x hx => h x (by simpa using hx)
 cases o with
 | move x => rfl
 | assign x => rfl
 | alloc t => rfl
 | load t a => simp only [look]; rw [h a (by simp [Op.operands])]
 | store t a v => simp only [look]; rw [h a (by simp [Op.operands]), h v (by simp [Op.operands])]
 | box t v => simp only [look]; rw [h v (by simp [Op.operands])]
 | makeSlice t l c => simp only [look]; rw [h l (by simp [Op.operands]), h c (by simp [Op.operands])]
 | convert s d x => simp only [look]; rw [h x (by simp [Op.operands])]
 | call c =>
  obtain ⟨callee, args, ats⟩ := c
  cases callee with
  | value f =>
   have h1 : args.toList.map ev = args.toList.map ev2 := List.map_congr_left fun x hx => h x (by simp [Op.operands, Call.operands]; exact .inr (by simpa using hx))
   simp only [look, callRefs]
   rw [h f (by simp [Op.operands, Call.operands]), h1]
  | _ => simp only [look]; rw [hmap]
 | _ => simp only [look]; rw [hmap]
theorem lookOk_ev {ev ev2 : Operand → DVal E.T} (o : Op) (h : ∀ x ∈ o.operands, ev x = ev2 x) : lookOk E ev st o = lookOk E ev2 st o := by
 have hmap : o.operands.toList.map ev = o.operands.toList.map ev2 := List.map_congr_left fun x hx => h x (by simpa using hx)
 cases o with
 | move x => rfl
 | assign x => rfl
 | alloc t => rfl
 | load t a => rfl
 | store t a v => rfl
 | box t v => simp only [lookOk]; rw [h v (by simp [Op.operands])]
 | makeSlice t l c => simp only [lookOk]; rw [h l (by simp [Op.operands]), h c (by simp [Op.operands])]
 | convert s d x => simp only [lookOk]; rw [h x (by simp [Op.operands])]
 | call c =>
  obtain ⟨callee, args, ats⟩ := c
  cases callee with
  | value f =>
   have h1 : args.toList.map ev = args.toList.map ev2 := List.map_congr_left fun x hx => h x (by simp [Op.operands, Call.operands]; exact .inr (by simpa using hx))
   simp only [lookOk, callRefs]
   rw [h f (by simp [Op.operands, Call.operands]), h1]
  | _ => simp only [lookOk]; rw [hmap]
 | _ => simp only [lookOk]; rw [hmap]
theorem movable_ev {ev ev2 : Operand → DVal E.T} (o : Op) (h : ∀ x ∈ o.operands, ev x = ev2 x) : movable E ev o = movable E ev2 o := by
 cases o with
 | buildSlice t n ps =>
  have hp : ∀ x ∈ ps.toList, ev x.2 = ev2 x.2 := fun x hx => h x.2 (by simp only [Op.operands]; simp; exact ⟨x.1, by simpa using hx⟩)
  have h1 : (ps.toList.map fun x => ev x.2) = ps.toList.map fun x => ev2 x.2 := List.map_congr_left hp
  simp only [movable, h1]
 | call c =>
  obtain ⟨callee, args, ats⟩ := c
  cases callee with
  | builtin b => cases b <;> rfl
  | _ => rfl
 | _ => rfl
theorem entOf_ev {ev ev2 : Operand → DVal E.T} {id : Nat} {e : Eff E.T} (o : Op) (h : ∀ x ∈ o.operands, ev x = ev2 x) : entOf E ev st id o e = entOf E ev2 st id o e := by
 have hmap : o.operands.toList.map ev = o.operands.toList.map ev2 := List.map_congr_left fun x hx => h x (by simpa using hx)
 unfold entOf
 rw [look_ev o h, hmap, movable_ev o h]
 cases o with
 | load t a => simp only; rw [h a (by simp [Op.operands])]
 | store t a v => simp only; rw [h a (by simp [Op.operands]), h v (by simp [Op.operands])]
 | _ => rfl
def Does (S : FuncId → Option (Spec E)) (fx : List Nat) (all : Array Oper) (x : Tri) (fr : Fr E.T) (st : St E.T) (e : Eff E.T) (en : Option Ent) : Prop :=
 (wantD E all.toList x.o fr = some true ∧ (deff E S fx (dget E fr) st x.id x.o.op).get = some e ∧ lookOk E (dget E fr) st x.o.op = true ∧ en = some (entOf E (dget E fr) st x.id x.o.op e)) ∨
 (wantD E all.toList x.o fr = some false ∧ e = eVal E (.tup []) ∧ en = none)
theorem Does.to {x : Tri} {e : Eff E.T} {en : Option Ent} (h : Does S fx all x fr st e en) (hop : ∀ z ∈ x.o.op.operands, dget E fr2 z = dget E fr z) (hw : wantD E all.toList x.o fr2 = wantD E all.toList x.o fr)
  (ha : ∀ a, en = some a → AgreeOn a.lk st st2) (hl : movable E (dget E fr) x.o.op = true ∨ st.length = st2.length) : Does S fx all x fr2 st2 e en := by
 rcases h with ⟨h1, h2, h3, h4⟩ | ⟨h1, h2, h3⟩
 ·subst h4
  have ha' : AgreeOn (look E (dget E fr) st x.id x.o.op e) st st2 := ha _ rfl
  obtain ⟨g1, g2, g3⟩ := deff_st h2 h3 ha' hl
  refine .inl ⟨by rw [hw, h1], by rw [deff_ev _ hop]; exact g1, by rw [lookOk_ev _ hop]; exact g2, ?_⟩
  rw [entOf_ev _ hop]
  unfold entOf
  rw [g3]
  have : List.range' st.length e.news.length = List.range' st2.length e.news.length := by
   rcases hl with hl | hl
   ·rw [(deff_mov hl h2).news]; rfl
   ·rw [hl]
  rw [this]
 ·exact .inr ⟨by rw [hw, h1], h2, h3⟩
theorem disj_iff {a b : List Nat} : disj a b = true ↔ ∀ k ∈ a, k ∉ b := by
 unfold disj
 rw [List.all_eq_true]
 constructor
 ·intro h k hk hb
  have := h k hk
  rw [(memB_iff b k).2 hb] at this; cases this
 ·intro h k hk
  rw [memB_false.2 (h k hk)]; rfl
theorem mov_sto {ev : Operand → DVal E.T} {id : Nat} {o : Op} {e : Eff E.T} (h : movable E ev o = true) : (entOf E ev st id o e).sto = none := by
 unfold entOf
 cases o <;> first | rfl | cases h
theorem updAll_at : ∀ (l : List (Nat × Obj E.T)) (s : St E.T) (k : Nat), k ∉ l.map (·.1) → nth? (updAll E s l) k = nth? s k
 | [], s, k, _ => rfl
 | p :: r, s, k, h => by
  simp only [List.map_cons, List.mem_cons, not_or] at h
  rw [updAll, updAll_at r _ k h.2, nth?_upd, if_neg (fun hh => h.1 hh.1.symm)]
theorem effSt_at {e : Eff E.T} {k : Nat} (hk : k < st.length) (hu : k ∉ e.ups.map (·.1)) : nth? (effSt E st e) k = (nth? st k).map (killObj E st e.ks) := by
 unfold effSt
 rw [addNew_eq, nth?_app, length_updAll, killSt_eq, List.length_map, if_pos hk, updAll_at _ _ _ hu, nth?_map]
theorem effSt_ge {e : Eff E.T} {k : Nat} (hk : ¬ k < st.length) (hn : k ∉ List.range' st.length e.news.length) : nth? (effSt E st e) k = none := by
 unfold effSt
 rw [addNew_eq, nth?_app, length_updAll, killSt_eq, List.length_map, if_neg hk, nth?_eq]
 rw [List.getElem?_eq_none]
 rw [List.mem_range'_1] at hn
 omega
theorem killObj_arrs {ks : List Nat} {ob : Obj E.T} (h : ∀ ro c, ob ≠ .box ro c) : killObj E st ks ob = ob := by
 cases ob with
 | box ro c => exact absurd rfl (h ro c)
 | _ => rfl
theorem getP_noRefs : ∀ (p : List Step) {t : Ty} {x : I E.T t} {v : DVal E.T}, (getP E p (.val t x)).get = some v → refs v = []
 | [], t, x, v, h => by cases h; simp [refs]
 | .fld i j :: p, t, x, v, h => by
  simp only [getP] at h
  have hd : (∃ t' y, dfld E i j (.val t x) = .val t' y) ∨ dfld E i j (.val t x) = .undef := by
   cases t with
   | named i' =>
    simp only [dfld]
    cases Nat.beq i i' with
    | false => exact .inr rfl
    | true =>
     simp only [cond_true]
     unfold parts
     generalize E.out i' x = r
     generalize E.fields i' = ts at r
     have : ∀ (ts : List Ty) (r : HL E.T ts) (j : Nat), (∃ t' y, nth (hlL E ts r) j .undef = .val t' y) ∨ nth (hlL E ts r) j .undef = .undef := by
      intro ts
      induction ts with
      | nil => intro r j; exact .inr (by simp [hlL, nth_nil, nth_zero, nth_succ])
      | cons t ts ih =>
       intro r j
       cases j with
       | zero => exact .inl ⟨t, r.1, by simp [hlL, nth_nil, nth_zero, nth_succ]⟩
       | succ j => simp only [hlL, nth_nil, nth_zero, nth_succ]; exact ih r.2 j
     exact this ts r j
   | _ => exact .inr rfl
  rcases hd with ⟨t', y, hd⟩ | hd
  ·rw [hd] at h; exact getP_noRefs p h
  ·rw [hd] at h
   have := getP_ok.getP_undef p h
   subst this
   simp [refs]
 | .idx e n :: p, t, x, v, h => by
  cases t with
  | arr m e' =>
   simp only [getP] at h
   obtain ⟨_, h⟩ := Tree.get_need h
   simp only [Tree.get] at h
   obtain ⟨y, _, h⟩ := Option.bind_eq_some_iff.1 h
   exact getP_noRefs p h
  | _ => cases h
theorem kill_noRefs {ks : List Nat} {v : DVal E.T} (h : refs v = []) : kill E st ks v = v := kill_disj ks v (fun k hk => by rw [h] at hk; cases hk)
theorem dfld_kill (ks : List Nat) (i j : Nat) (d : DVal E.T) : dfld E i j (kill E st ks d) = kill E st ks (dfld E i j d) := by
 cases d with
 | own k =>
  unfold kill
  cases memB ks k with
  | true => simp only [cond_true]; split <;> simp [dfld, kill]
  | false => simp [dfld, kill]
 | ptr o p =>
  unfold kill
  cases memB ks o <;> simp [dfld, kill]
 | agg i' fs =>
  rw [show kill E st ks (.agg i' fs) = .agg i' (killL E st ks fs) by simp [kill]]
  simp only [dfld]
  cases Nat.beq i i' with
  | true => simp only [cond_true]; exact nth_killL ks fs j
  | false => simp [kill]
 | val t x =>
  rw [show kill E st ks (.val t x) = .val t x by simp [kill]]
  symm
  refine kill_noRefs ?_
  have : (getP E [.fld i j] (.val t x)).get = some (dfld E i j (.val t x)) := rfl
  exact getP_noRefs _ this
 | _ => simp [dfld, kill]
theorem getP_kill (ks : List Nat) : ∀ (p : List Step) (d : DVal E.T), (getP E p (kill E st ks d)).get = ((getP E p d).get).map (kill E st ks)
 | [], d => rfl
 | .fld i j :: p, d => by
  simp only [getP]
  rw [dfld_kill, getP_kill ks p]
 | .idx e n :: p, d => by
  cases d with
  | val t x =>
   rw [show kill E st ks (.val t x) = .val t x by simp [kill]]
   cases hg : (getP E (.idx e n :: p) (.val t x)).get with
   | none => rfl
   | some v => simp only [Option.map_some]; rw [kill_noRefs (getP_noRefs _ hg)]
  | own k =>
   unfold kill
   cases memB ks k with
   | true => simp only [cond_true]; split <;> rfl
   | false => rfl
  | ptr o q => unfold kill; cases memB ks o <;> rfl
  | _ => unfold kill; rfl
theorem getO_kill (ks : List Nat) (p : List Step) (ob : Obj E.T) : (getO E (killObj E st ks ob) p).get = ((getO E ob p).get).map (kill E st ks) := by
 cases ob with
 | box ro c => exact getP_kill ks p c
 | arr l e xs =>
  show (getO E (.arr l e xs) p).get = _
  cases p with
  | nil => rfl
  | cons s p =>
   cases s with
   | fld i j => rfl
   | idx e' n =>
    cases hg : (getO E (.arr l e xs) (.idx e' n :: p)).get with
    | none => rfl
    | some v =>
     simp only [Option.map_some]
     have hr : refs v = [] := by
      simp only [getO] at hg
      obtain ⟨_, hg⟩ := Tree.get_need hg
      simp only [Tree.get] at hg
      obtain ⟨y, _, hg⟩ := Option.bind_eq_some_iff.1 hg
      exact getP_noRefs _ hg
     rw [kill_noRefs hr]
 | dead => rfl
theorem apart_getP {ok : DVal E.T → Bool} {v : DVal E.T} : ∀ (q p : List Step) {d d1 : DVal E.T}, (setP E ok v q d).get = some d1 → apartP q p = true → getP E p d1 = getP E p d
 | [], p, d, d1, _, h => by cases h
 | .idx e n :: q, p, d, d1, _, h => by cases p <;> cases h
 | .fld i j :: q, [], d, d1, _, h => by cases h
 | .fld i j :: q, .idx e n :: p, d, d1, _, h => by cases h
 | .fld i j :: q, .fld i' j' :: p, d, d1, hs, h => by
  simp only [apartP, Bool.and_eq_true] at h
  obtain ⟨hi, hj⟩ := h
  have hi := Nat.eq_of_beq_eq_true hi; subst hi
  simp only [setP] at hs
  split at hs
  ·rename_i i0 fs he
   obtain ⟨hb, hs⟩ := Tree.get_need hs
   rw [Bool.and_eq_true] at hb
   have hb1 := Nat.eq_of_beq_eq_true hb.1; subst hb1
   have hlt := blt_lt hb.2
   obtain ⟨d2, h1, h2⟩ := Tree.get_bind_some hs
   cases h2
   have hd : dfld E i j' d = nth fs j' .undef := by
    cases d with
    | val t x =>
     cases t with
     | named i' =>
      simp only [explode, Option.some.injEq, Prod.mk.injEq] at he
      obtain ⟨rfl, rfl⟩ := he
      simp [dfld, Nat.beq_refl]
     | _ => cases he
    | agg i' fs' =>
     simp only [explode, Option.some.injEq, Prod.mk.injEq] at he
     obtain ⟨rfl, rfl⟩ := he
     simp [dfld, Nat.beq_refl]
    | _ => cases he
   simp only [getP]
   rw [hd]
   have hd1 : dfld E i j' (.agg i (upd fs j d2)) = nth (upd fs j d2) j' .undef := by simp [dfld, Nat.beq_refl]
   rw [hd1]
   cases hjj : Nat.beq j j' with
   | true =>
    have := Nat.eq_of_beq_eq_true hjj; subst this
    rw [hjj] at hj
    simp only [cond_true] at hj
    have hn : nth (upd fs j d2) j .undef = d2 := by
     have h3 := nth?_upd fs j j d2
     rw [if_pos ⟨rfl, hlt⟩] at h3
     rw [nth?_eq] at h3
     rw [nth_eq, List.getD_eq_getElem?_getD, h3]; rfl
    rw [hn]
    exact apart_getP q p h1 hj
   | false =>
    rw [nth_upd_ne _ _ _ _ _ (fun e => by rw [e, Nat.beq_refl] at hjj; cases hjj)]
  ·cases hs
theorem apart_getO {ok : DVal E.T → Bool} {v : DVal E.T} {b b1 : Obj E.T} {q p : List Step} (h : (setO E ok v b q).get = some b1) (ha : apartP q p = true) : getO E b1 p = getO E b p := by
 cases b with
 | box ro c =>
  cases ro with
  | false =>
   simp only [setO] at h
   obtain ⟨c', h1, h2⟩ := Tree.get_bind_some h
   cases h2
   exact apart_getP q p h1 ha
  | true => cases h
 | arr l e xs =>
  cases q with
  | nil => cases h
  | cons s q =>
   cases s with
   | fld i j => cases h
   | idx e' n => cases ha
 | dead => cases h
theorem dload_iff {t : TypeId} {k : Nat} {p : List Step} {v : DVal E.T} : (dload E st t (.ptr k p)).get = some v ↔ ∃ b, nth? st k = some b ∧ (getO E b p).get = some v ∧ fits E st t v = true := by
 unfold dload
 constructor
 ·intro h
  simp only at h
  split at h
  ·rename_i b hb
   obtain ⟨v', h1, h2⟩ := Tree.get_bind_some h
   obtain ⟨hf, h2⟩ := Tree.get_need h2
   cases h2
   exact ⟨b, hb, h1, hf⟩
  ·cases h
 ·rintro ⟨b, hb, h1, h2⟩
  simp only [hb]
  rw [Tree.get_bind, h1]
  simp only [Option.bind_some, h2]
  rfl
theorem fits_own {t : TypeId} {v : DVal E.T} (hf : fits E st t v = true) (h : ∀ k, v = .own k → ∀ l e xs, nth? st k = some (.arr l e xs) → nth? st2 k = some (.arr l e xs)) : fits E st2 t v = true := by
 by_cases hv : ∃ k, v = .own k
 ·obtain ⟨k, rfl⟩ := hv
  unfold fits at hf ⊢
  cases htk : E.tk t with
  | data ty =>
   rw [htk] at hf
   simp only [fitsD] at hf ⊢
   split at hf
   ·rename_i l e xs hk
    rw [h k rfl l e xs hk]; exact hf
   ·cases hf
  | other => rw [htk] at hf; cases hf
  | _ => rw [htk] at hf; cases hf
 ·have : fits E st2 t v = fits E st t v := by
   unfold fits
   cases v with
   | own k => exact absurd ⟨k, rfl⟩ hv
   | _ => rfl
  rw [this]; exact hf
end
end
open Go
section
variable {E : Env} {st st1 st2 : St E.T} {fr fr1 fr2 : Fr E.T} {S : FuncId → Option (Spec E)} {fx : List Nat} {all : Array Oper}
theorem isArr_some {k : Nat} (h : isArr E st k = true) : ∃ l e xs, nth? st k = some (.arr l e xs) := by
 unfold isArr at h
 split at h
 ·rename_i l e xs hk; exact ⟨l, e, xs, hk⟩
 ·cases h
theorem lk_kinds {ev : Operand → DVal E.T} {id : Nat} {o : Op} {e : Eff E.T} (hm : movable E ev o = true) (h : (deff E S fx ev st id o).get = some e) (hk : lookOk E ev st o = true) (hn : ∀ t a k p, o = .load t a → ev a ≠ .ptr k p) :
  ∀ k ∈ look E ev st id o e, ∃ ob, nth? st k = some ob ∧ ∀ ro c, ob ≠ .box ro c := by
 have arrs : ∀ L : List Nat, L.all (isArr E st) = true → ∀ k ∈ L, ∃ ob, nth? st k = some ob ∧ ∀ ro c, ob ≠ .box ro c := by
  intro L hL k hk
  rw [List.all_eq_true] at hL
  obtain ⟨l, e, xs, h⟩ := isArr_some (hL k hk)
  exact ⟨_, h, fun ro c h => by cases h⟩
 have dead : ∀ {ob}, nth? st id = some .dead → ob = id → ∃ ob', nth? st ob = some ob' ∧ ∀ ro c, ob' ≠ .box ro c := fun h1 h2 => ⟨.dead, by rw [h2]; exact h1, fun ro c h => by cases h⟩
 intro k hkk
 cases o with
 | move x => cases hkk
 | assign x => cases hkk
 | alloc t =>
  have hM := deff_mov hm h
  simp only [look, List.mem_singleton] at hkk
  simp only [deff] at h
  split at h
  ·cases h
  ·exact dead (deadAt (Tree.get_need h).1) hkk
 | load t a =>
  simp only [look] at hkk
  split at hkk
  ·rename_i k' p v hev _; exact absurd hev (hn t a k' p rfl)
  ·cases hkk
 | store t a v => cases hm
 | makeSlice t l c =>
  simp only [look, List.mem_cons] at hkk
  rcases hkk with hkk | hkk
  ·simp only [deff] at h
   obtain ⟨p, hp, h⟩ := Tree.get_bind_some h
   split at h
   ·exact dead (deadAt (Tree.get_need h).1) hkk
   ·cases h
  ·exact arrs _ hk k hkk
 | box t v =>
  simp only [look, List.mem_cons] at hkk
  simp only [deff] at h
  obtain ⟨hd, _⟩ := Tree.get_need h
  rw [Bool.and_eq_true] at hd
  rcases hkk with hkk | hkk
  ·exact dead (deadAt hd.1) hkk
  ·exact arrs _ hk k hkk
 | convert s d x =>
  simp only [look, List.mem_append] at hkk
  rcases hkk with hkk | hkk
  ·have hs : isSl E d = true := by
    cases hb : isSl E d with
    | true => rfl
    | false => rw [hb] at hkk; cases hkk
   rw [hs] at hkk
   simp only [cond_true, List.mem_singleton] at hkk
   simp only [deff] at h
   split at h
   ·split at h
    ·obtain ⟨hd, _⟩ := Tree.get_need h
     rw [Bool.and_eq_true] at hd
     exact dead (deadAt hd.2) hkk
    ·cases h
   ·exfalso
    unfold isSl at hs
    split at hs
    ·rename_i e' he
     simp only [dval, he] at h
     cases h
    ·cases hs
  ·exact arrs _ hk k hkk
 | call c =>
  obtain ⟨callee, args, ats⟩ := c
  cases callee with
  | value f => cases hm
  | invoke r m => exact arrs _ hk k hkk
  | builtin b => exact arrs _ hk k hkk
 | _ => exact arrs _ hk k hkk
theorem sto_spec {x : Tri} {e : Eff E.T} {a : Ent} {k : Nat} {q : List Step} (h : Does S fx all x fr st e (some a)) (hs : a.sto = some (k, q)) :
  ∃ ok v b b1, nth? st k = some b ∧ (setO E ok v b q).get = some b1 ∧ e = { res := .val .undef, ups := [(k, b1)], ks := [], news := [] } := by
 rcases h with ⟨h1, h2, h3, h4⟩ | ⟨_, _, h3⟩
 ·cases h4
  unfold entOf at hs
  simp only at hs
  generalize x.o.op = o at *
  cases o with
  | store t z v =>
   simp only at hs
   split at hs
   ·rename_i k' p hev
    cases hr : (refs (dget E fr v)).isEmpty with
    | false => rw [hr] at hs; cases hs
    | true =>
     rw [hr] at hs
     cases hs
     have hl0 : live E st (rowsOf E (.ptr k q) (dget E fr v)) = [] := by
      have : refs (dget E fr v) = [] := List.isEmpty_iff.1 hr
      have h0 : rowsOf E (.ptr k q) (dget E fr v) = [] := by
       simp only [rowsOf, this]
       cases hasIdx q <;> rfl
      rw [h0]; rfl
     simp only [deff, hev, hl0] at h2
     split at h2
     ·rename_i b hb
      obtain ⟨_, h2⟩ := Tree.get_need h2
      obtain ⟨b1, h5, h6⟩ := Tree.get_bind_some h2
      cases h6
      exact ⟨_, _, b, b1, hb, h5, rfl⟩
     ·cases h2
   ·cases hs
  | _ => cases hs
 ·cases h3
theorem mov_fwd {x : Tri} {e ec : Eff E.T} {b : Ent} {dc : Option Tmp} {vc : DVal E.T} (hm : movable E (dget E fr) x.o.op = true) (h : Does S fx all x fr st e (some b)) (hd : ∀ d, dc = some d → d ∉ x.o.looksAt all) (hv : ∀ k ∈ ec.ks, k ∉ b.vr)
  (hs : (∀ k ∈ b.lk, k ∉ ec.ups.map (·.1)) ∨ (∃ k p q rs ok v b0 b1, b.ld = some (k, p, rs) ∧ apartP q p = true ∧ nth? st k = some b0 ∧ (setO E ok v b0 q).get = some b1 ∧ ec = { res := .val .undef, ups := [(k, b1)], ks := [], news := [] } ∧ k ∉ rs)) :
  Does S fx all x (put E (killFr' E st ec.ks fr) dc vc) (effSt E st ec) e (some b) := by
 rcases h with ⟨h1, h2, h3, h4⟩ | ⟨_, _, h4⟩
 rotate_left
 ·cases h4
 have hb : b = entOf E (dget E fr) st x.id x.o.op e := Option.some.inj h4
 have hvr : ∀ k ∈ ec.ks, k ∉ refsL (x.o.op.operands.toList.map (dget E fr)) ∧ k ∉ effRefs E e.res := by
  intro k hk
  have := hv k hk
  rw [hb] at this
  simp only [entOf, List.mem_append, not_or] at this
  exact this
 have hop : ∀ z ∈ x.o.op.operands, dget E (put E (killFr' E st ec.ks fr) dc vc) z = dget E fr z := by
  intro z hz
  rw [dget_put (fun d hd' e => hd d hd' (by subst e; exact List.mem_append_left _ (List.mem_filterMap.2 ⟨.tmp d, by simpa using hz, rfl⟩)))]
  refine dget_kill ec.ks z (fun t ht => ?_)
  subst ht
  refine kill_disj _ _ (fun k hk hkk => (hvr k hkk).1 ?_)
  exact refs_mem (d := dget E fr (.tmp t)) (List.mem_map.2 ⟨.tmp t, by simpa using hz, rfl⟩) k hk
 have hw : wantD E all.toList x.o (put E (killFr' E st ec.ks fr) dc vc) = wantD E all.toList x.o fr := by rw [want_put hd, want_kill]
 by_cases hload : ∃ t z k p, x.o.op = .load t z ∧ dget E fr z = .ptr k p
 ·obtain ⟨t, z, k, p, hop', hev⟩ := hload
  have h2' := h2
  rw [hop'] at h2'
  simp only [deff] at h2'
  obtain ⟨v, hv', he⟩ := bind_eVal h2'
  simp only [dval, hev] at hv'
  obtain ⟨b0, hb0, hg, hf⟩ := dload_iff.1 hv'
  have hres : e.res = .val v := by rw [he]; rfl
  have hlk : b.lk = k :: refs v := by rw [hb]; simp only [entOf, hop', look, hev, hres]
  have hld : b.ld = some (k, p, refs v) := by rw [hb]; simp only [entOf, hop', hev, hres]
  have hkv : kill E st ec.ks v = v := kill_disj _ _ (fun j hj hjk => (hvr j hjk).2 (by rw [hres]; exact hj))
  have key : ∃ b2, nth? (effSt E st ec) k = some b2 ∧ (getO E b2 p).get = some v ∧ fits E (effSt E st ec) t v = true := by
   rcases hs with hs | ⟨k', p', q, rs, ok, v', b0', b1, g1, g2, g3, g4, g5, g6⟩
   ·rw [hlk] at hs
    refine ⟨killObj E st ec.ks b0, by rw [effSt_at (nth?_lt hb0) (hs k (by simp)), hb0]; rfl, by rw [getO_kill, hg]; simp only [Option.map_some]; rw [hkv], fits_own hf (fun j hj l e' xs hjk => ?_)⟩
    rw [effSt_at (nth?_lt hjk) (hs j (by subst hj; simp [refs])), hjk]; rfl
   ·rw [hld] at g1
    cases g1
    rw [hb0] at g3; cases g3
    subst g5
    refine ⟨b1, ?_, by rw [apart_getO g4 g2]; exact hg, fits_own hf (fun j hj l e' xs hjk => ?_)⟩
    ·show nth? (upd st k b1) k = some b1
     rw [nth?_upd, if_pos ⟨rfl, nth?_lt hb0⟩]
    ·show nth? (upd st k b1) j = _
     rw [nth?_upd, if_neg]
     ·exact hjk
     ·rintro ⟨rfl, _⟩
      exact g6 (by subst hj; simp [refs])
  have hdl := dload_iff.2 key
  have hze : dget E (put E (killFr' E st ec.ks fr) dc vc) z = .ptr k p := by rw [hop z (by rw [hop']; simp [Op.operands]), hev]
  refine .inl ⟨by rw [hw, h1], ?_, by rw [hop']; rfl, ?_⟩
  ·rw [hop']
   simp only [deff, dval, hze]
   rw [Tree.get_bind, hdl, he]
   rfl
  ·rw [hb, entOf_ev _ hop]
   unfold entOf
   have hM := deff_mov hm h2
   rw [hM.news]
   simp only [hop', look, hev, hres, List.length_nil, List.range'_zero]
 ·have hld : b.ld = none := by
   rw [hb]
   unfold entOf
   simp only
   generalize hoo : x.o.op = oo at *
   cases oo with
   | load t z =>
    simp only
    split
    ·rename_i k p v hev _; exact absurd ⟨t, z, k, p, rfl, hev⟩ hload
    ·rfl
   | _ => rfl
  have hs' : ∀ k ∈ b.lk, k ∉ ec.ups.map (·.1) := by
   rcases hs with hs | ⟨k', p', q, rs, ok, v', b0', b1, g1, _⟩
   ·exact hs
   ·rw [hld] at g1; cases g1
  have hkinds := lk_kinds hm h2 h3 (fun t a k p h hev => hload ⟨t, a, k, p, h, hev⟩)
  refine Does.to (.inl ⟨h1, h2, h3, h4⟩) hop hw (fun a ha => ?_) (.inl hm)
  cases ha
  intro k hk
  obtain ⟨ob, ho, hnb⟩ := hkinds k (by rw [hb] at hk; exact hk)
  rw [effSt_at (nth?_lt ho) (hs' k hk), ho]
  simp only [Option.map_some]
  rw [killObj_arrs hnb]
theorem mov_bwd {x : Tri} {e ec : Eff E.T} {b : Ent} {dc : Option Tmp} {vc : DVal E.T} (hm : movable E (dget E (put E (killFr' E st ec.ks fr) dc vc)) x.o.op = true) (h : Does S fx all x (put E (killFr' E st ec.ks fr) dc vc) (effSt E st ec) e (some b)) (hd : ∀ d, dc = some d → d ∉ x.o.looksAt all) (hcl : ec.ks = [] ∨ b.cl = true)
  (hs : (∀ k ∈ b.lk, k ∉ ec.ups.map (·.1) ∧ k ∉ List.range' st.length ec.news.length) ∨ (∃ k p q rs ok v b0 b1, b.ld = some (k, p, rs) ∧ apartP q p = true ∧ nth? st k = some b0 ∧ (setO E ok v b0 q).get = some b1 ∧ ec = { res := .val .undef, ups := [(k, b1)], ks := [], news := [] } ∧ k ∉ rs)) :
  Does S fx all x fr st e (some b) := by
 rcases h with ⟨h1, h2, h3, h4⟩ | ⟨_, _, h4⟩
 rotate_left
 ·cases h4
 generalize hfr2 : put E (killFr' E st ec.ks fr) dc vc = fr2 at *
 have hb : b = entOf E (dget E fr2) (effSt E st ec) x.id x.o.op e := Option.some.inj h4
 have hop0 : ∀ z ∈ x.o.op.operands, dget E fr2 z = dget E (killFr' E st ec.ks fr) z := by
  intro z hz
  rw [← hfr2]
  exact dget_put (fun d hd' e => hd d hd' (by subst e; exact List.mem_append_left _ (List.mem_filterMap.2 ⟨.tmp d, by simpa using hz, rfl⟩)))
 have hclean : ec.ks = [] ∨ (cleanL (x.o.op.operands.toList.map (dget E fr2)) = true ∧ cleanRes E e.res = true) := by
  rcases hcl with h | h
  ·exact .inl h
  ·rw [hb] at h
   simp only [entOf, Bool.and_eq_true] at h
   exact .inr h
 have clean_mem : ∀ {d : DVal E.T} {l : List (DVal E.T)}, cleanL l = true → d ∈ l → clean d = true := by
  intro d l
  induction l with
  | nil => intro _ h; cases h
  | cons v r ih =>
   intro h1 h2
   unfold cleanL at h1
   rw [Bool.and_eq_true] at h1
   rcases List.mem_cons.1 h2 with rfl | h2
   ·exact h1.1
   ·exact ih h1.2 h2
 have hop : ∀ z ∈ x.o.op.operands, dget E fr z = dget E fr2 z := by
  intro z hz
  rw [hop0 z hz]
  symm
  refine dget_kill ec.ks z (fun t ht => ?_)
  subst ht
  rcases hclean with h | ⟨h, _⟩
  ·rw [h]; exact kill_nil _ _
  ·have hc := clean_mem h (List.mem_map.2 ⟨.tmp t, by simpa using hz, rfl⟩)
   rw [hop0 _ hz, killFr_eq] at hc
   simp only [dget, killFr] at hc
   rw [nth_killL] at hc
   exact kill_clean ec.ks _ hc
 have hw : wantD E all.toList x.o fr = wantD E all.toList x.o fr2 := by rw [← hfr2, want_put hd, want_kill]
 by_cases hload : ∃ t z k p, x.o.op = .load t z ∧ dget E fr2 z = .ptr k p
 ·obtain ⟨t, z, k, p, hop', hev⟩ := hload
  have h2' := h2
  rw [hop'] at h2'
  simp only [deff] at h2'
  obtain ⟨v, hv', he⟩ := bind_eVal h2'
  simp only [dval, hev] at hv'
  obtain ⟨b2, hb2, hg, hf⟩ := dload_iff.1 hv'
  have hres : e.res = .val v := by rw [he]; rfl
  have hlk : b.lk = k :: refs v := by rw [hb]; simp only [entOf, hop', look, hev, hres]
  have hld : b.ld = some (k, p, refs v) := by rw [hb]; simp only [entOf, hop', hev, hres]
  have key : ∃ b0, nth? st k = some b0 ∧ (getO E b0 p).get = some v ∧ fits E st t v = true := by
   rcases hs with hs | ⟨k', p', q, rs, ok, v', b0', b1, g1, g2, g3, g4, g5, g6⟩
   ·rw [hlk] at hs
    have hlt : ∀ {j ob}, nth? (effSt E st ec) j = some ob → j ∈ k :: refs v → j < st.length := by
     intro j ob hj hjm
     rcases Nat.lt_or_ge j st.length with h | h
     ·exact h
     ·rw [effSt_ge (by omega) (hs j hjm).2] at hj; cases hj
    have hk := hlt hb2 (by simp)
    have hat := effSt_at hk (hs k (by simp)).1
    rw [hb2] at hat
    obtain ⟨b0, hb0, hbk⟩ := Option.map_eq_some_iff.1 hat.symm
    refine ⟨b0, hb0, ?_, fits_own hf (fun j hj l e' xs hjk => ?_)⟩
    ·rw [← hbk, getO_kill] at hg
     obtain ⟨v0, hv0, hvk⟩ := Option.map_eq_some_iff.1 hg
     rw [hv0]
     rcases hclean with h | ⟨_, h⟩
     ·rw [← hvk, h, kill_nil]
     ·rw [hres] at h
      simp only [cleanRes] at h
      rw [← hvk] at h
      rw [kill_clean ec.ks v0 h] at hvk
      rw [hvk]
    ·have hjm : j ∈ k :: refs v := by subst hj; simp [refs]
     have hj2 := effSt_at (hlt hjk hjm) (hs j hjm).1
     rw [hjk] at hj2
     obtain ⟨ob, ho, hok⟩ := Option.map_eq_some_iff.1 hj2.symm
     rw [ho]
     cases ob with
     | arr l' e'' xs' => rw [← hok]; rfl
     | box ro c => cases hok
     | dead => cases hok
   ·rw [hld] at g1
    cases g1
    subst g5
    have hb2' : nth? (upd st k b1) k = some b2 := hb2
    rw [nth?_upd, if_pos ⟨rfl, nth?_lt g3⟩] at hb2'
    have hb2'' := Option.some.inj hb2'
    subst hb2''
    refine ⟨b0', g3, by rw [← apart_getO g4 g2]; exact hg, fits_own hf (fun j hj l e' xs hjk => ?_)⟩
    have hjk' := hjk
    simp only [effSt, killSt, updAll, addNew] at hjk'
    rw [nth?_upd, if_neg] at hjk'
    ·exact hjk'
    ·rintro ⟨rfl, _⟩
     exact g6 (by subst hj; simp [refs])
  have hdl := dload_iff.2 key
  have hze : dget E fr z = .ptr k p := by rw [hop z (by rw [hop']; simp [Op.operands]), hev]
  refine .inl ⟨by rw [hw, h1], ?_, by rw [hop']; rfl, ?_⟩
  ·rw [hop']
   simp only [deff, dval, hze]
   rw [Tree.get_bind, hdl, he]
   rfl
  ·rw [hb, entOf_ev _ hop]
   unfold entOf
   have hM := deff_mov hm h2
   rw [hM.news]
   simp only [hop', look, hev, hres, List.length_nil, List.range'_zero]
 ·have hld : b.ld = none := by
   rw [hb]
   unfold entOf
   simp only
   generalize hoo : x.o.op = oo at *
   cases oo with
   | load t z =>
    simp only
    split
    ·rename_i k p v hev _; exact absurd ⟨t, z, k, p, rfl, hev⟩ hload
    ·rfl
   | _ => rfl
  have hs' : ∀ k ∈ b.lk, k ∉ ec.ups.map (·.1) ∧ k ∉ List.range' st.length ec.news.length := by
   rcases hs with hs | ⟨k', p', q, rs, ok, v', b0', b1, g1, _⟩
   ·exact hs
   ·rw [hld] at g1; cases g1
  have hkinds := lk_kinds hm h2 h3 (fun t a k p h hev => hload ⟨t, a, k, p, h, hev⟩)
  refine Does.to (.inl ⟨h1, h2, h3, h4⟩) hop hw (fun a ha => ?_) (.inl hm)
  cases ha
  intro k hk
  obtain ⟨ob, ho, hnb⟩ := hkinds k (by rw [hb] at hk; exact hk)
  have hlt : k < st.length := by
   rcases Nat.lt_or_ge k st.length with h | h
   ·exact h
   ·rw [effSt_ge (by omega) (hs' k hk).2] at ho; cases ho
  have hat := effSt_at hlt (hs' k hk).1
  rw [ho] at hat
  obtain ⟨ob0, ho0, hok⟩ := Option.map_eq_some_iff.1 hat.symm
  rw [ho, ho0]
  cases ob0 with
  | box ro c => exact absurd hok.symm (hnb _ _)
  | arr l e' xs => rw [← hok]; rfl
  | dead => rw [← hok]; rfl
end
open Go
section
variable {E : Env} {st st1 st2 : St E.T} {fr fr1 fr2 : Fr E.T} {S : FuncId → Option (Spec E)} {fx : List Nat} {all : Array Oper}
structure Moves (E : Env) (x : Tri) (fr : Fr E.T) (st : St E.T) (e : Eff E.T) (en : Option Ent) (v : DVal E.T) : Prop where
 val : e.res = .val v
 ks : e.ks = []
 news : e.news = []
 vr : ∀ a, en = some a → ∀ k ∈ refs v, k ∈ a.vr
 nil_ : en = none → refs v = []
 ups : e.ups = [] ∨ ∃ ob a, e.ups = [(x.id, ob)] ∧ en = some a ∧ nth? st x.id = some .dead ∧ x.id ∈ a.vr ∧ x.id ∈ a.up ∧ ∀ k ∈ objRefs E ob, k ∈ a.vr
 sto : ∀ a, en = some a → a.sto = none
 mv : ∀ a, en = some a → movable E (dget E fr) x.o.op = true
theorem does_moves {x : Tri} {e : Eff E.T} {en : Option Ent} (h : Does S fx all x fr st e en) (hm : en = none ∨ movable E (dget E fr) x.o.op = true) : ∃ v, Moves E x fr st e en v := by
 rcases h with ⟨h1, h2, h3, h4⟩ | ⟨_, h2, h3⟩
 ·subst h4
  have hm := hm.resolve_left (fun h => by cases h)
  have hM := deff_mov hm h2
  obtain ⟨v, hv⟩ := hM.val
  have hvr : ∀ k, k ∈ refsL (x.o.op.operands.toList.map (dget E fr)) ∨ k ∈ effRefs E e.res → k ∈ (entOf E (dget E fr) st x.id x.o.op e).vr := by
   intro k hk
   simp only [entOf, List.mem_append]
   exact hk
  refine ⟨v, hv, hM.ks, hM.news, fun a ha k hk => ?_, fun h => (by cases h), ?_, fun a ha => ?_, fun _ _ => hm⟩
  ·cases ha
   exact hvr k (.inr (by rw [hv]; exact hk))
  ·rcases hM.ups with h | ⟨ob, h5, h6, h7, h8, h9, h10⟩
   ·exact .inl h
   ·refine .inr ⟨ob, _, h5, rfl, h6, hvr _ (.inr h10), ?_, fun k hk => hvr k (.inl (h8 k hk))⟩
    simp [entOf, h5]
  ·cases ha
   exact mov_sto hm
 ·subst h2; subst h3
  exact ⟨.tup [], rfl, rfl, rfl, fun a ha => (by cases ha), fun _ => by simp [refs, refsL], .inl rfl, fun a ha => (by cases ha), fun a ha => (by cases ha)⟩
theorem moves_apply {x : Tri} {e : Eff E.T} {en : Option Ent} {v : DVal E.T} (h : Moves E x fr st e en v) (fr' : Fr E.T) (st' : St E.T) : applyE E fr' st' x.o.dst e = .next (put E fr' x.o.dst v) (updAll E st' e.ups) := apply_mov h.val h.ks h.news
theorem indep_spec {a b : Ent} (h : indep a b = true) : (a.mv = true ∨ b.mv = true) ∧ (∀ k ∈ a.up, k ∉ b.up) ∧ sepB a b = true ∧ sepB b a = true ∧ (∀ k ∈ a.ks, k ∉ b.vr) ∧ (∀ k ∈ b.ks, k ∉ a.vr) ∧ (a.ks = [] ∨ b.cl = true) ∧ (b.ks = [] ∨ a.cl = true) ∧ (a.pan = true → b.up = []) ∧ (b.pan = true → a.up = []) := by
 unfold indep at h
 simp only [Bool.and_eq_true, Bool.or_eq_true, Bool.not_eq_true', List.isEmpty_iff] at h
 obtain ⟨h1, h2, h3, h4, h5, ⟨h6, h7, h8⟩, h9, h10⟩ := h
 refine ⟨h1, disj_iff.1 h2, h3, h4, disj_iff.1 h5, disj_iff.1 h6, h7, h8, fun hp => ?_, fun hp => ?_⟩
 ·rcases h9 with h9 | h9
  ·exact absurd hp (by rw [h9]; simp)
  ·exact h9
 ·rcases h10 with h10 | h10
  ·exact absurd hp (by rw [h10]; simp)
  ·exact h10
theorem sep_disj {a b : Ent} (h : sepB a b = true) (hs : a.sto = none) : ∀ k ∈ a.up, k ∉ b.lk := by
 unfold sepB at h
 rw [hs] at h
 simp only [Bool.or_false] at h
 exact disj_iff.1 h
theorem entOf_of {x : Tri} {e : Eff E.T} {a : Ent} (h : Does S fx all x fr st e (some a)) : a.mv = movable E (dget E fr) x.o.op ∧ a.up = e.ups.map (·.1) ++ List.range' st.length e.news.length ∧ a.ks = e.ks ∧ a.pan = isPan E e.res := by
 rcases h with ⟨_, _, _, h4⟩ | ⟨_, _, h4⟩
 ·cases h4; exact ⟨rfl, rfl, rfl, rfl⟩
 ·cases h4
theorem sep_cases {y : Tri} {ey : Eff E.T} {a b : Ent} (hy : Does S fx all y fr st ey (some b)) (h : sepB b a = true) :
  (∀ k ∈ a.lk, k ∉ ey.ups.map (·.1) ∧ k ∉ List.range' st.length ey.news.length) ∨ (∃ k p q rs ok v b0 b1, a.ld = some (k, p, rs) ∧ apartP q p = true ∧ nth? st k = some b0 ∧ (setO E ok v b0 q).get = some b1 ∧ ey = { res := .val .undef, ups := [(k, b1)], ks := [], news := [] } ∧ k ∉ rs) := by
 have hup := (entOf_of hy).2.1
 unfold sepB at h
 rw [Bool.or_eq_true] at h
 rcases h with h | h
 ·left
  intro k hk
  have h1 := disj_iff.1 h
  constructor
  ·intro hk2
   exact h1 k (by rw [hup]; exact List.mem_append_left _ hk2) hk
  ·intro hk2
   exact h1 k (by rw [hup]; exact List.mem_append_right _ hk2) hk
 ·right
  split at h
  ·rename_i k q k' p rs hs hl
   simp only [Bool.and_eq_true] at h
   obtain ⟨h1, h2, h3⟩ := h
   have := Nat.eq_of_beq_eq_true h1; subst this
   obtain ⟨ok, v, b0, b1, h4, h5, h6⟩ := sto_spec hy hs
   refine ⟨k, p, q, rs, ok, v, b0, b1, hl, h2, h4, h5, h6, disj_iff.1 h3 k ?_⟩
   rw [hup, h6]
   simp
  ·cases h
theorem pass_want {x : Tri} {e : Eff E.T} (h : Does S fx all x fr st e none) (hw : wantD E all.toList x.o fr2 = wantD E all.toList x.o fr) : Does S fx all x fr2 st2 e none := by
 rcases h with ⟨_, _, _, h4⟩ | ⟨h1, h2, h3⟩
 ·cases h4
 ·exact .inr ⟨by rw [hw]; exact h1, h2, rfl⟩
theorem ops_put {x : Tri} {d : Option Tmp} {v : DVal E.T} (h : ∀ t, d = some t → t ∉ x.o.looksAt all) : ∀ z ∈ x.o.op.operands, dget E (put E fr d v) z = dget E fr z := fun z hz =>
 dget_put (fun t ht e => h t ht (by subst e; exact List.mem_append_left _ (List.mem_filterMap.2 ⟨.tmp t, by simpa using hz, rfl⟩)))
theorem swap {x y : Tri} {ex ey : Eff E.T} {enx eny : Option Ent} (hx : Does S fx all x fr st ex enx) (hap : x.o.apart all y.o = true) (hnext : applyE E fr st x.o.dst ex = .next fr1 st1) (hy : Does S fx all y fr1 st1 ey eny)
  (hi : ∀ a b, enx = some a → eny = some b → indep a b = true) :
  Does S fx all y fr st ey eny ∧ (match applyE E fr1 st1 y.o.dst ey with
   | .next fr2 st2 => ∃ fr1' st1', applyE E fr st y.o.dst ey = .next fr1' st1' ∧ Does S fx all x fr1' st1' ex enx ∧ applyE E fr1' st1' x.o.dst ex = .next fr2 st2
   | .panic v fr2 st2 => ∃ fr1' vx, applyE E fr st y.o.dst ey = .panic v fr1' st2 ∧ fr2 = put E fr1' x.o.dst vx) := by
 obtain ⟨hxy, hdd, hyx⟩ := Oper.apart_spec hap
 have hdd' : ∀ d, y.o.dst = some d → x.o.dst ≠ some d := fun d h1 h2 => hdd d h2 h1
 by_cases hmx : enx = none ∨ movable E (dget E fr) x.o.op = true
 ·
  obtain ⟨vx, hm⟩ := does_moves hx hmx
  rw [moves_apply hm] at hnext
  cases hnext
  have hlen : (updAll E st ex.ups).length = st.length := length_updAll _ _
  have hids : ∀ b, eny = some b → AgreeOn b.lk (updAll E st ex.ups) st := by
   intro b hb k hk
   rcases hm.ups with h | ⟨ob, a, h5, h6, _, _, h7, _⟩
   ·rw [h]; rfl
   ·have hin := indep_spec (hi a b h6 hb)
    have := sep_disj hin.2.2.1 (hm.sto a h6) _ h7
    rw [updAll_at _ _ _ (by rw [h5]; simp; rintro rfl; exact this hk)]
  have hy0 : Does S fx all y fr st ey eny := by
   refine Does.to hy (fun z hz => (ops_put hxy z hz).symm) (want_put hxy).symm hids (.inr hlen)
  refine ⟨hy0, ?_⟩
  have hvk : ∀ k ∈ refs vx, k ∉ ey.ks := by
   intro k hk hkk
   cases henx : enx with
   | none => rw [hm.nil_ henx] at hk; cases hk
   | some a =>
    cases heny : eny with
    | none =>
     rw [heny] at hy0
     rcases hy0 with ⟨_, _, _, h4⟩ | ⟨_, h2, _⟩
     ·cases h4
     ·subst h2; cases hkk
    | some b =>
     rw [heny] at hy0
     have hin := indep_spec (hi a b henx heny)
     exact hin.2.2.2.2.2.1 k (by rw [(entOf_of hy0).2.2.1]; exact hkk) (hm.vr a henx k hk)
  have hcomm := comm_apply (fr := fr) (st := st) (dm := x.o.dst) (dc := y.o.dst) (v := vx) (ups := ex.ups) (e := ey) hdd hvk (by
   rcases hm.ups with h | ⟨ob, a, h5, h6, h7, h8, h9, h10⟩
   ·exact .inl h
   ·refine .inr ⟨x.id, ob, h5, nth?_lt h7, ?_⟩
    cases heny : eny with
    | none =>
     rw [heny] at hy0
     rcases hy0 with ⟨_, _, _, h4⟩ | ⟨_, h2, _⟩
     ·cases h4
     ·subst h2; exact ⟨by simp [eVal], by simp [eVal], fun k _ => by simp [eVal]⟩
    | some b =>
     rw [heny] at hy0
     have hin := indep_spec (hi a b h6 heny)
     have hen := entOf_of hy0
     refine ⟨fun h => hin.2.1 _ h9 (by rw [hen.2.1]; exact List.mem_append_left _ h), fun h => hin.2.2.2.2.2.1 _ (by rw [hen.2.2.1]; exact h) h8, fun k hk h => hin.2.2.2.2.2.1 _ (by rw [hen.2.2.1]; exact h) (h10 k hk)⟩)
  rw [hcomm]
  cases hap2 : applyE E fr st y.o.dst ey with
  | next fr1' st1' =>
   simp only [thenPut]
   refine ⟨fr1', st1', rfl, ?_, moves_apply hm fr1' st1'⟩
   have hform : fr1' = put E (killFr' E st ey.ks fr) y.o.dst (match ey.res with | .val v => v | .panic v => v) ∧ st1' = effSt E st ey := by
    unfold applyE at hap2
    split at hap2
    ·rename_i v hv
     cases hap2
     rw [hv]
     exact ⟨rfl, rfl⟩
    ·cases hap2
   obtain ⟨rfl, rfl⟩ := hform
   cases henx : enx with
   | none =>
    rw [henx] at hx
    refine pass_want hx ?_
    rw [want_put hyx, want_kill]
   | some a =>
    rw [henx] at hx
    have hmx' := hm.mv a henx
    cases heny : eny with
    | none =>
     rw [heny] at hy0
     rcases hy0 with ⟨_, _, _, h4⟩ | ⟨_, h2, _⟩
     ·cases h4
     ·subst h2
      exact mov_fwd hmx' hx hyx (fun k hk => by simp [eVal] at hk) (.inl fun k hk => by simp [eVal])
    | some b =>
     rw [heny] at hy0
     have hin := indep_spec (hi a b henx heny)
     refine mov_fwd hmx' hx hyx (fun k hk => hin.2.2.2.2.2.1 k (by rw [(entOf_of hy0).2.2.1]; exact hk)) ?_
     rcases sep_cases hy0 hin.2.2.2.1 with h | h
     ·exact .inl fun k hk => (h k hk).1
     ·exact .inr h
  | panic v fr1' st1' =>
   simp only [thenPut]
   refine ⟨fr1', vx, ?_, rfl⟩
   have hups : ex.ups = [] := by
    rcases hm.ups with h | ⟨ob, a, h5, h6, h7, h8, h9, h10⟩
    ·exact h
    ·cases heny : eny with
     | none =>
      rw [heny] at hy0
      rcases hy0 with ⟨_, _, _, h4⟩ | ⟨_, h2, _⟩
      ·cases h4
      ·subst h2; cases hap2
     | some b =>
      rw [heny] at hy0
      have hin := indep_spec (hi a b h6 heny)
      have hpan : b.pan = true := by
       rw [(entOf_of hy0).2.2.2]
       unfold applyE at hap2
       split at hap2
       ·cases hap2
       ·rename_i u hu; rw [hu]; rfl
      rw [hin.2.2.2.2.2.2.2.2.2 hpan] at h9
      cases h9
   rw [hups]
   rfl
 ·
  obtain ⟨a, henx⟩ : ∃ a, enx = some a := by
   cases enx with
   | none => exact absurd (.inl rfl) hmx
   | some a => exact ⟨a, rfl⟩
  subst henx
  have hmx' : ¬ movable E (dget E fr) x.o.op = true := fun h => hmx (.inr h)
  have hmy : eny = none ∨ movable E (dget E fr1) y.o.op = true := by
   cases heny : eny with
   | none => exact .inl rfl
   | some b =>
    right
    rw [heny] at hy
    have hin := indep_spec (hi a b rfl heny)
    rcases hin.1 with h | h
    ·rw [(entOf_of hx).1] at h; exact absurd h hmx'
    ·rw [(entOf_of hy).1] at h; exact h
  have hform : fr1 = put E (killFr' E st ex.ks fr) x.o.dst (match ex.res with | .val v => v | .panic v => v) ∧ st1 = effSt E st ex := by
   unfold applyE at hnext
   split at hnext
   ·rename_i v hv
    cases hnext
    rw [hv]
    exact ⟨rfl, rfl⟩
   ·cases hnext
  have hy0 : Does S fx all y fr st ey eny := by
   obtain ⟨h1, h2⟩ := hform
   cases heny : eny with
   | none =>
    rw [heny] at hy
    refine pass_want hy ?_
    rw [h1, want_put hxy, want_kill]
   | some b =>
    rw [heny] at hy
    have hmy' := hmy.resolve_left (fun h => by rw [heny] at h; cases h)
    have hin := indep_spec (hi a b rfl heny)
    rw [h1, h2] at hy
    rw [h1] at hmy'
    refine mov_bwd hmy' hy hxy ?_ (sep_cases hx hin.2.2.1)
    rw [← (entOf_of hx).2.2.1]
    exact hin.2.2.2.2.2.2.1
  refine ⟨hy0, ?_⟩
  have hmy0 : eny = none ∨ movable E (dget E fr) y.o.op = true := by
   cases heny : eny with
   | none => exact .inl rfl
   | some b =>
    right
    rw [heny] at hy0
    have hin := indep_spec (hi a b rfl heny)
    rcases hin.1 with h | h
    ·rw [(entOf_of hx).1] at h; exact absurd h hmx'
    ·rw [(entOf_of hy0).1] at h; exact h
  obtain ⟨vy, hm⟩ := does_moves hy0 hmy0
  rw [moves_apply hm]
  refine ⟨_, _, moves_apply hm fr st, ?_, ?_⟩
  ·refine Does.to hx (ops_put hyx) (want_put hyx) (fun a' ha' k hk => ?_) (.inr (length_updAll _ _).symm)
   cases ha'
   rcases hm.ups with h | ⟨ob, b, h5, h6, h7, h8, h9, h10⟩
   ·rw [h]; rfl
   ·have hin := indep_spec (hi a b rfl h6)
    have := sep_disj hin.2.2.2.1 (hm.sto b h6) _ h9
    rw [updAll_at _ _ _ (by rw [h5]; simp; rintro rfl; exact this hk)]
  ·have hcomm := comm_apply (fr := fr) (st := st) (dm := y.o.dst) (dc := x.o.dst) (v := vy) (ups := ey.ups) (e := ex) hdd' (by
     intro k hk hkk
     cases heny : eny with
     | none => rw [hm.nil_ heny] at hk; cases hk
     | some b =>
      have hin := indep_spec (hi a b rfl heny)
      exact hin.2.2.2.2.1 k (by rw [(entOf_of hx).2.2.1]; exact hkk) (hm.vr b heny k hk)) (by
     rcases hm.ups with h | ⟨ob, b, h5, h6, h7, h8, h9, h10⟩
     ·exact .inl h
     ·have hin := indep_spec (hi a b rfl h6)
      have hen := entOf_of hx
      refine .inr ⟨y.id, ob, h5, nth?_lt h7, fun h => hin.2.1 _ (by rw [hen.2.1]; exact List.mem_append_left _ h) h9, fun h => hin.2.2.2.2.1 _ (by rw [hen.2.2.1]; exact h) h8, fun k hk h => hin.2.2.2.2.1 _ (by rw [hen.2.2.1]; exact h) (h10 k hk)⟩)
   rw [hcomm, hnext]
   rfl
end
open Go
noncomputable section
section
variable {E : Env} {st st1 st2 : St E.T} {fr fr1 fr2 : Fr E.T} {S : FuncId → Option (Spec E)} {fx bef : List Nat} {all : Array Oper}
def logAdd (i : Nat) (en : Option Ent) (log : List (Nat × Ent)) : List (Nat × Ent) :=
 match en with
 | some a => (i, a) :: log
 | none => log
inductive GoodRun (S : FuncId → Option (Spec E)) (fx bef : List Nat) (all : Array Oper) : List Tri → Fr E.T → St E.T → RgOut E → List (Nat × Ent) → Prop where
 | nil (fr : Fr E.T) (st : St E.T) : GoodRun S fx bef all [] fr st (.done fr st) []
 | next {x : Tri} {l : List Tri} {fr fr1 : Fr E.T} {st st1 : St E.T} {e : Eff E.T} {en : Option Ent} {out : RgOut E} {log : List (Nat × Ent)} (h : Does S fx all x fr st e en) (ha : applyE E fr st x.o.dst e = .next fr1 st1) (hr : GoodRun S fx bef all l fr1 st1 out log)
   (hl : ∀ a, en = some a → ∀ p ∈ log, befB bef p.1 x.i = true ∨ indep a p.2 = true) : GoodRun S fx bef all (x :: l) fr st out (logAdd x.i en log)
 | panic {x : Tri} {l : List Tri} {fr fr1 : Fr E.T} {st st1 : St E.T} {e : Eff E.T} {en : Option Ent} {v : DVal E.T} (h : Does S fx all x fr st e en) (ha : applyE E fr st x.o.dst e = .panic v fr1 st1)
   (hr : ∀ y ∈ l, befB bef y.i x.i = true ∨ isMove y.o = true) : GoodRun S fx bef all (x :: l) fr st (.panic v (clearDst E fr1 all.toList) st1) (logAdd x.i en [])
theorem logOk_spec {i : Nat} {a : Ent} : ∀ {log : List (Nat × Ent)}, logOk bef i a log = true → ∀ p ∈ log, befB bef i p.1 = true ∨ indep p.2 a = true
 | [], _, p, h => by cases h
 | q :: r, hl, p, h => by
  simp only [logOk, Bool.and_eq_true, Bool.or_eq_true] at hl
  rcases List.mem_cons.1 h with rfl | h
  ·exact hl.1
  ·exact logOk_spec hl.2 p h
theorem restOk_spec {i : Nat} : ∀ {l : List Tri}, restOk bef i l = true → ∀ y ∈ l, befB bef y.i i = true ∨ isMove y.o = true
 | [], _, y, h => by cases h
 | x :: r, hl, y, h => by
  simp only [restOk, Bool.and_eq_true, Bool.or_eq_true] at hl
  rcases List.mem_cons.1 h with rfl | h
  ·exact hl.1
  ·exact restOk_spec hl.2 y h
theorem drun_good : ∀ (l : List Tri) {log : List (Nat × Ent)} {fr : Fr E.T} {st : St E.T} {out : RgOut E}, (drun E S fx bef all.toList l log fr st).get = some out →
  ∃ log', GoodRun S fx bef all l fr st out log' ∧ ∀ p ∈ log, ∀ q ∈ log', befB bef q.1 p.1 = true ∨ indep p.2 q.2 = true
 | [], log, fr, st, out, h => by
  cases h
  exact ⟨[], .nil fr st, fun p _ q hq => by cases hq⟩
 | x :: r, log, fr, st, out, h => by
  simp only [drun] at h
  rcases guard_want h with ⟨hw, h1⟩ | ⟨hw, h1⟩
  ·obtain ⟨e, he, h2⟩ := Tree.get_bind_some h1
   obtain ⟨hb, h2⟩ := Tree.get_need h2
   rw [Bool.and_eq_true] at hb
   have hd : Does S fx all x fr st e (some (entOf E (dget E fr) st x.id x.o.op e)) := .inl ⟨hw, he, hb.1, rfl⟩
   have hlog := logOk_spec hb.2
   split at h2
   ·rename_i fr' st' ha
    obtain ⟨log', hg, hl⟩ := drun_good r h2
    refine ⟨_, .next hd ha hg (fun a ha' q hq => ?_), fun p hp q hq => ?_⟩
    ·cases ha'
     exact hl _ List.mem_cons_self q hq
    ·rcases List.mem_cons.1 hq with rfl | hq
     ·exact hlog p hp
     ·exact hl p (by simp [hp]) q hq
   ·rename_i v fr' st' ha
    obtain ⟨hr, h2⟩ := Tree.get_need h2
    cases h2
    refine ⟨_, .panic hd ha (restOk_spec hr), fun p hp q hq => ?_⟩
    simp only [logAdd, List.mem_singleton] at hq
    subst hq
    exact hlog p hp
  ·have hd : Does S fx all x fr st (eVal E (.tup [])) none := .inr ⟨hw, rfl, rfl⟩
   obtain ⟨log', hg, hl⟩ := drun_good r h1
   exact ⟨_, .next hd rfl hg (fun a ha => by cases ha), hl⟩
theorem clear_put {d : Option Tmp} {v : DVal E.T} : ∀ (l : List Oper) {f : Fr E.T}, (∃ o ∈ l, o.dst = d) → clearDst E (put E f d v) l = clearDst E f l
 | [], f, h => by obtain ⟨o, ho, _⟩ := h; cases ho
 | o :: r, f, h => by
  simp only [clearDst]
  by_cases ho : o.dst = d
  ·rw [ho]
   cases d with
   | none => rfl
   | some t =>
    have : put E (put E f (some t) v) (some t) .undef = put E f (some t) .undef := by
     simp only [put]
     congr 1
     have upd_upd : ∀ (l : List (DVal E.T)) (t : Nat) (a b : DVal E.T), upd (upd l t a) t b = upd l t b := by
      intro l
      induction l with
      | nil => intro t a b; rfl
      | cons x r ih =>
       intro t a b
       cases t with
       | zero => rfl
       | succ t => simp only [upd_nil, upd_zero, upd_succ]; rw [ih]
     exact upd_upd _ _ _ _
    rw [this]
  ·have hc : put E (put E f d v) o.dst .undef = put E (put E f o.dst .undef) d v := put_comm (fun t ht e => ho (by rw [ht]; exact e))
   rw [hc]
   refine clear_put r ?_
   obtain ⟨o', ho', hd⟩ := h
   rcases List.mem_cons.1 ho' with rfl | ho'
   ·exact absurd hd ho
   ·exact ⟨o', ho', hd⟩
theorem kill_put' {ks : List Nat} {d : Option Tmp} {v : DVal E.T} : killFr' E st ks (put E fr d v) = put E (killFr' E st ks fr) d (kill E st ks v) := by
 rw [killFr_eq, killFr_eq]
 cases d with
 | none => rfl
 | some t =>
  simp only [put, killFr]
  rw [killL_upd]
theorem move_does {y : Tri} (h : isMove y.o = true) (fr : Fr E.T) (st : St E.T) : ∃ e v en, Does S fx all y fr st e en ∧ ∀ fr' st', applyE E fr' st' y.o.dst e = .next (put E fr' y.o.dst v) st' := by
 unfold isMove at h
 split at h
 ·rename_i z ho hg
  refine ⟨eVal E (dget E fr z), dget E fr z, _, .inl ⟨by unfold wantD; rw [hg], by rw [ho]; rfl, by rw [ho]; rfl, rfl⟩, fun fr' st' => rfl⟩
 ·cases h
theorem front {y : Tri} {post : List Tri} : ∀ (pre : List Tri) {fr : Fr E.T} {st : St E.T} {out : RgOut E} {log : List (Nat × Ent)}, GoodRun S fx bef all (pre ++ y :: post) fr st out log →
  (∀ x ∈ pre, befB bef y.i x.i = false ∧ x.o.apart all y.o = true) → (∀ x ∈ pre ++ y :: post, ∃ o ∈ all.toList, o.dst = x.o.dst) →
  (∃ e en fr1 st1 log1, Does S fx all y fr st e en ∧ applyE E fr st y.o.dst e = .next fr1 st1 ∧ GoodRun S fx bef all (pre ++ post) fr1 st1 out log1 ∧ (∀ q ∈ log1, q ∈ log) ∧ ∀ a, en = some a → (y.i, a) ∈ log) ∨
  (∃ v e en fr1 st1, Does S fx all y fr st e en ∧ applyE E fr st y.o.dst e = .panic v fr1 st1 ∧ out = .panic v (clearDst E fr1 all.toList) st1 ∧ ∀ a, en = some a → (y.i, a) ∈ log) ∨
  (isMove y.o = true ∧ ∀ v', GoodRun S fx bef all (pre ++ post) (put E fr y.o.dst v') st out log)
 | [], fr, st, out, log, h, _, _ => by
  cases h with
  | next h ha hr hl =>
   rename_i fr1 st1 e en log1
   refine .inl ⟨_, _, _, _, _, h, ha, hr, fun q hq => ?_, fun a ha => ?_⟩
   ·cases en with
    | none => exact hq
    | some a => exact List.mem_cons_of_mem _ hq
   ·subst ha; exact List.mem_cons_self
  | panic h ha hr =>
   rename_i fr1 st1 e en v
   refine .inr (.inl ⟨_, _, _, _, _, h, ha, rfl, fun a ha => ?_⟩)
   subst ha; exact List.mem_cons_self
 | x :: pre, fr, st, out, log, h, hp, hd => by
  have hx := hp x (by simp)
  obtain ⟨hxy, hdd, hyx⟩ := Oper.apart_spec hx.2
  have hyd := hd y (by simp)
  have hxd := hd x (by simp)
  cases h with
  | panic h ha hr =>
   rename_i fr1 st1 e en v
   right; right
   have hm : isMove y.o = true := by
    rcases hr y (by simp) with h1 | h1
    ·rw [hx.1] at h1; cases h1
    ·exact h1
   refine ⟨hm, fun v' => ?_⟩
   have hd' : Does S fx all x (put E fr y.o.dst v') st e en := Does.to h (ops_put hyx) (want_put hyx) (fun a _ k _ => rfl) (.inr rfl)
   have ha' : applyE E (put E fr y.o.dst v') st x.o.dst e = .panic v (put E fr1 y.o.dst (kill E st e.ks v')) st1 := by
    unfold applyE at ha ⊢
    split at ha
    ·cases ha
    ·rename_i u hu
     cases ha
     rw [kill_put']
   have := GoodRun.panic hd' ha' (l := pre ++ post) (bef := bef) (fun z hz => hr z (by
    rcases List.mem_append.1 hz with hz | hz
    ·simp [hz]
    ·simp [hz]))
   rw [clear_put _ hyd] at this
   exact this
  | next h ha hr hl =>
   rename_i fr1 st1 e en log1
   have hlog : ∀ q ∈ log1, q ∈ logAdd x.i en log1 := fun q hq => by
    cases en with
    | none => exact hq
    | some a => exact List.mem_cons_of_mem _ hq
   rcases front pre hr (fun z hz => hp z (by simp [hz])) (fun z hz => hd z (by simp at hz ⊢; right; exact hz)) with ⟨ey, eny, fr2, st2, log2, h1, h2, h3, h4, h5⟩ | ⟨v, ey, eny, fr2, st2, h1, h2, h3, h5⟩ | ⟨h1, h2⟩
   ·
    have hi : ∀ a b, en = some a → eny = some b → indep a b = true := by
     intro a b hen heny
     rcases hl a hen _ (h5 b heny) with h | h
     ·rw [hx.1] at h; cases h
     ·exact h
    obtain ⟨hs1, hs2⟩ := swap h hx.2 ha h1 hi
    rw [h2] at hs2
    obtain ⟨fr1', st1', g1, g2, g3⟩ := hs2
    refine .inl ⟨_, _, _, _, _, hs1, g1, .next g2 g3 h3 (fun a hen q hq => hl a hen q (h4 q hq)), fun q hq => ?_, fun a ha => hlog _ (h5 a ha)⟩
    cases en with
    | none => exact h4 q hq
    | some a =>
     rcases List.mem_cons.1 hq with rfl | hq
     ·exact List.mem_cons_self
     ·exact List.mem_cons_of_mem _ (h4 q hq)
   ·
    have hi : ∀ a b, en = some a → eny = some b → indep a b = true := by
     intro a b hen heny
     rcases hl a hen _ (h5 b heny) with h | h
     ·rw [hx.1] at h; cases h
     ·exact h
    obtain ⟨hs1, hs2⟩ := swap h hx.2 ha h1 hi
    rw [h2] at hs2
    obtain ⟨fr1', vx, g1, g2⟩ := hs2
    refine .inr (.inl ⟨v, ey, eny, fr1', st2, hs1, g1, ?_, fun a ha => hlog _ (h5 a ha)⟩)
    rw [h3, g2, clear_put _ hxd]
   ·
    refine .inr (.inr ⟨h1, fun v' => ?_⟩)
    have hd' : Does S fx all x (put E fr y.o.dst v') st e en := Does.to h (ops_put hyx) (want_put hyx) (fun a _ k _ => rfl) (.inr rfl)
    have ha' : applyE E (put E fr y.o.dst v') st x.o.dst e = .next (put E fr1 y.o.dst (kill E st e.ks v')) st1 := by
     unfold applyE at ha ⊢
     split at ha
     ·rename_i u hu
      cases ha
      rw [kill_put', put_comm (d1 := y.o.dst) (d2 := x.o.dst) (fun d h3 h4 => hdd d h4 h3)]
     ·cases ha
    exact .next hd' ha' (h2 _) hl
end
end
open Go
section
variable {P : Program} {E : Env} {w w' : World} {σ σ' : Sg} {st st' : St E.T} {fr : Fr E.T} {a : Act} {S : FuncId → Option (Spec E)} {fx : List Nat}
variable {K : Act → World → Prop} {Q : Exit → Act → World → Prop}
theorem dconv_state {src dst : TypeId} {x : DVal E.T} {p : DVal E.T × St E.T} (hn : isSl E dst = false) (h : (dconv E st src dst x).get = some p) : p.2 = st := by
 unfold dconv at h
 obtain ⟨_, h⟩ := Tree.get_need h
 unfold isSl at hn
 split at h
 ·cases h; rfl
 ·cases h; rfl
 ·rename_i hd _; rw [hd] at hn; cases hn
 ·rename_i hd _; rw [hd] at hn; cases hn
 ·split at h
  ·obtain ⟨s, _, h⟩ := Tree.get_bind_some h
   cases h; rfl
  ·cases h
 ·cases h
theorem dmake_state {t : TypeId} {l c : DVal E.T} {p : DVal E.T × St E.T} (h : (dmakeSlice E true st t l c).get = some p) : p.2 = st := by
 unfold dmakeSlice at h
 split at h
 ·obtain ⟨_, h⟩ := ite_get h
  obtain ⟨z, _, h⟩ := Tree.get_bind_some h
  cases h; rfl
 ·cases h
theorem dcut_state {α : Type} {xs : List α} {l h : Int} {g : List α → DVal E.T} {p : DVal E.T × St E.T} (hg : (dcut E xs l h fun r => .ret (g r, st)).get = some p) : p.2 = st := by
 unfold dcut at hg
 obtain ⟨_, hg⟩ := ite_get hg
 cases hg; rfl
theorem dslice_state {t : TypeId} {x : DVal E.T} {lo hi mx : Option (DVal E.T)} {p : DVal E.T × St E.T} (h1 : ∀ k, x ≠ .own k) (h2 : ∀ o q, x ≠ .ptr o q) (h : (dslice E st t x lo hi mx).get = some p) : p.2 = st := by
 have key : ∀ {α : Type} {xs : List α} {t1 : Bool} {l hh : Option Int} {g : List α → DVal E.T}, ((Tree.need t1 ((Tree.ofOpt l).bind fun l => (Tree.ofOpt hh).bind fun h => dcut E xs l h fun r => .ret (g r, st)))).get = some p → p.2 = st := by
  intro α xs t1 l hh g h
  obtain ⟨_, h⟩ := Tree.get_need h
  obtain ⟨_, _, h⟩ := Tree.get_bind_some h
  obtain ⟨_, _, h⟩ := Tree.get_bind_some h
  exact dcut_state h
 unfold dslice at h
 split at h
 ·cases h
 ·split at h
  ·exact key h
  ·exact key h
  ·rename_i k; exact absurd rfl (h1 k)
  ·exact key h
  ·rename_i o q; exact absurd rfl (h2 o q)
  ·cases h
theorem bind_val {t : Tree (DVal E.T)} {v : DVal E.T} {dst : Option Tmp} (h : t.get = some v) : (t.bind (valOut E fr dst st)).get = some (.next (put E fr dst v) st) := by
 rw [Tree.get_bind, h]; rfl
theorem dval_dop {o : Oper} {v : DVal E.T} (hm : makes E o.op = false) (h : (dval E (dget E fr) st o.op).get = some v) : (dop E S true fr st o).get = some (.next (put E fr o.dst v) st) := by
 obtain ⟨dst, op, type, pos, aft, guard⟩ := o
 simp only at h hm
 cases op with
 | move x => cases h; rfl
 | assign x => cases h; rfl
 | pick c x y =>
  simp only [dval] at h
  simp only [dop]
  split at h
  ·rename_i b hb
   cases b <;> (cases h; rfl)
  ·cases h
 | build t ps => simp only [dop]; exact bind_val h
 | buildSlice t n ps => simp only [dop]; exact bind_val h
 | load t x => simp only [dop]; exact bind_val h
 | nilCheck x =>
  simp only [dval] at h
  simp only [dop]
  split at h
  ·rename_i p q hq; cases h; rfl
  ·rename_i t y hq; cases h; rfl
  ·rename_i f c hq; cases h; rfl
  ·cases h
 | binOp op t x y pan =>
  simp only [dval] at h
  simp only [dop]
  split at h
  ·rename_i b hb
   obtain ⟨hi, h⟩ := Tree.get_need h
   cases h
   simp only [hi]
   rfl
  ·exact bind_val h
 | unOp op t x => simp only [dop]; exact bind_val h
 | convert src d x =>
  simp only [dval] at h
  simp only [dop]
  split at h
  ·cases h
  ·obtain ⟨p, hp, h2⟩ := Tree.get_bind_some h
   cases h2
   rw [Tree.get_bind, hp]
   simp only [Option.bind_some]
   rw [dconv_state hm hp]
   rfl
 | makeInterface t x =>
  simp only [dval] at h
  simp only [dop]
  split at h
  ·rename_i ty hk
   obtain ⟨y, hy, h⟩ := Tree.get_bind_some h
   obtain ⟨hf, h⟩ := Tree.get_need h
   cases h
   rw [Tree.get_bind, hy]
   simp only [Option.bind_some, hf]
   rfl
  ·cases h
 | makeFunc f first captured =>
  cases f with
  | func f =>
   simp only [dval] at h
   obtain ⟨hf, h⟩ := Tree.get_need h
   cases h
   simp only [dop, hf]
   rfl
  | _ => cases h
 | makeSlice t l c =>
  simp only [dval] at h
  simp only [dop]
  obtain ⟨p, hp, h2⟩ := Tree.get_bind_some h
  cases h2
  rw [Tree.get_bind, hp]
  simp only [Option.bind_some]
  rw [dmake_state hp]
  rfl
 | slice t x lo hi mx =>
  simp only [dval] at h
  simp only [dop]
  split at h
  ·cases h
  ·cases h
  ·rename_i h1 h2
   obtain ⟨p, hp, h3⟩ := Tree.get_bind_some h
   cases h3
   rw [Tree.get_bind, hp]
   simp only [Option.bind_some]
   rw [dslice_state (fun k => h1 k) (fun o q => h2 o q) hp]
   rfl
 | fieldAddr t x j => simp only [dop]; exact bind_val h
 | field t x j => simp only [dop]; exact bind_val h
 | indexAddr t x i => simp only [dop]; exact bind_val h
 | index t x i => simp only [dop]; exact bind_val h
 | typeAssert x xt t ok =>
  cases ok with
  | false => cases h
  | true =>
   simp only [dval] at h
   simp only [dop]
   split at h
   ·split at h
    ·rename_i t' v' hq
     cases hb : Nat.beq t' t <;> (rw [hb] at h; cases h; rfl)
    ·rename_i hq; cases h; rfl
    ·cases h
   ·cases h
 | extract t i =>
  simp only [dval] at h
  simp only [dop]
  split at h
  ·split at h
   ·cases h; rfl
   ·cases h
  ·cases h
 | call c =>
  obtain ⟨callee, args, ats⟩ := c
  cases callee with
  | builtin b =>
   simp only [dval] at h
   simp only [dop, dbuiltin]
   split at h
   ·rename_i x t ts hx hts; rw [hx, hts]; exact bind_val h
   ·rename_i x r hx; rw [hx]; exact bind_val h
   ·rename_i x r hx; rw [hx]; exact bind_val h
   ·cases h
  | _ => cases h
 | _ => cases h
theorem appended_shape {tx : TypeId} {e : Ty} {x : DVal E.T} {k : List (I E.T e) → Tree (Out E)} {p : Out E} (h : (appended E st tx e x k).get = some p) : ∃ ys, (k ys).get = some p := by
 unfold appended at h
 split at h
 ·obtain ⟨_, h⟩ := Tree.get_need h
  obtain ⟨_, h⟩ := ite_get h
  obtain ⟨z, _, h⟩ := Tree.get_bind_some h
  exact ⟨_, h⟩
 ·obtain ⟨_, h⟩ := Tree.get_need h
  split at h
  ·exact ⟨_, h⟩
  ·cases h
 ·obtain ⟨_, h⟩ := Tree.get_need h
  obtain ⟨ys, _, h⟩ := Tree.get_bind_some h
  exact ⟨ys, h⟩
theorem eff_ok (HS : Sound P E) (HC : CallOk P E S) {o : Oper} {e : Eff E.T} {id : Nat} (hst : StRep E σ st w) (hfr : FrRep E σ st w fr a) (hm : makes E o.op = false) (h : (deff E S fx (dget E fr) st id o.op).get = some e)
  (hp : Post E σ st w K Q a (applyE E fr st o.dst e)) : o.wp P a w K Q := by
 have viaVal : ((dval E (dget E fr) st o.op).bind fun v => .ret (eVal E v)).get = some e → o.wp P a w K Q := by
  intro h
  obtain ⟨v, hv, rfl⟩ := bind_eVal h
  exact dop_ok HS HC hst hfr (dval_dop hm hv) hp
 obtain ⟨dst, op, type, pos, aft, guard⟩ := o
 simp only at h hm hp viaVal
 cases op with
 | alloc t => cases hm
 | box t v => cases hm
 | makeSlice t l c => cases hm
 | buildSlice t n ps =>
  simp only [deff] at h
  split at h
  ·exact viaVal h
  ·rename_i k r hks
   obtain ⟨v, hv, h⟩ := Tree.get_bind_some h
   cases h
   obtain ⟨mf, _⟩ := freeze_ok (k :: r) hst
   have hfr1 := hfr.mv mf
   have hps := PRep.dat HS.toEnvOk mf.rep 0 (dparts_ok hfr1 ps.toList)
   rw [List.map_map] at hps
   have hap : applyE E fr st dst { res := .val v, ups := frozen E st (k :: r), ks := [], news := [] } = .next (put E fr dst v) (freeze E st (k :: r)) := by
    rw [apply_mov rfl rfl rfl, updAll_frozen]
   rw [hap] at hp
   exact post_val hfr1 (dbuildSlice_ok HS mf.rep hps hv) (by rw [← map_list]; rfl) (Post.later mf.f hp)
 | convert s d x =>
  simp only [deff] at h
  split at h
  ·rename_i hd
   simp only [makes, isSl, hd] at hm
   cases hm
  ·exact viaVal h
 | store t x y =>
  simp only [deff] at h
  split at h
  ·refine dop_ok HS HC (S := S) (dr := true) (out := applyE E fr st dst e) hst hfr ?_ hp
   simp only [dop, dstore]
   split at h
   ·rename_i k p hx
    try rw [hx]
    try simp only
    split at h
    ·rename_i b hb
     try rw [hb]
     try simp only
     obtain ⟨hf, h⟩ := Tree.get_need h
     obtain ⟨b', hb', h⟩ := Tree.get_bind_some h
     cases h
     rw [hf]
     simp only [Tree.need]
     rw [Tree.get_bind, Tree.get_bind, hb']
     rfl
    ·cases h
   ·cases h
  ·rename_i k r hks
   split at h
   ·rename_i q p hx
    split at h
    ·rename_i l e' xs hb
     obtain ⟨hf, h⟩ := Tree.get_need h
     obtain ⟨b', hb', h⟩ := Tree.get_bind_some h
     cases h
     rw [apply_mov rfl rfl rfl, updAll_app, updAll_frozen] at hp
     refine dop_ok HS HC (S := S) (dr := false) hst hfr ?_ hp
     simp only [Bool.and_eq_true] at hf
     have hf' : (fits E (freeze E st (k :: r)) t (datV E (freeze E st (k :: r)) 0 (dget E fr y)) && placeOk E t p) = true := by rw [hf.1.1, hf.1.2]; rfl
     simp only [dop]
     rw [hx] at hks ⊢
     rw [hks]
     simp only [dstore]
     rw [hb]
     simp only
     rw [hf']
     simp only [Tree.need]
     rw [Tree.get_bind, Tree.get_bind, hb']
     rfl
    ·cases h
   ·cases h
 | call c =>
  obtain ⟨callee, args, ats⟩ := c
  cases callee with
  | value f =>
   simp only [deff] at h
   exact HC hst hfr rfl h hp
  | invoke r m => exact viaVal h
  | builtin b =>
   cases b <;> simp only [deff] at h <;> first | exact viaVal h | skip
   refine dop_ok HS HC (S := S) (dr := true) (out := applyE E fr st dst e) hst hfr ?_ hp
   simp only [dop, dbuiltin]
   split at h
   ·rename_i s x t tx hargs hats
    rw [hargs, hats]
    simp only
    split at h
    ·obtain ⟨p, hv, h⟩ := Tree.get_bind_some h
     cases h
     rw [Tree.get_bind, hv]
     simp only [Option.bind_some]
     have hsh : ∃ ob, p.2 = st ++ [ob] := by
      unfold dappend at hv
      simp only at hv
      split at hv
      ·obtain ⟨ys, hy⟩ := appended_shape hv
       obtain ⟨_, hy⟩ := ite_get hy
       cases hy
       exact ⟨_, rfl⟩
      ·cases hv
     obtain ⟨ob, hob⟩ := hsh
     unfold applyE effSt
     simp only
     rw [hob]
     simp only [killSt, updAll, List.drop_left, addNew]
     rfl
    ·rename_i k
     obtain ⟨p, hv, h⟩ := Tree.get_bind_some h
     rw [Tree.get_bind, hv]
     simp only [Option.bind_some]
     have hsh : ∃ l e' xs, p.2 = upd st k (.arr l e' xs) ∧ k < st.length := by
      unfold dappend at hv
      simp only at hv
      split at hv
      ·rename_i e' xs hk
       obtain ⟨_, hv⟩ := Tree.get_need hv
       obtain ⟨ys, hy⟩ := appended_shape hv
       obtain ⟨_, hy⟩ := ite_get hy
       cases hy
       exact ⟨_, _, _, rfl, nth?_lt hk⟩
      ·cases hv
     obtain ⟨l, e', xs, hpe, hlt⟩ := hsh
     have hn : nth? p.2 k = some (.arr l e' xs) := by rw [hpe, nth?_upd, if_pos ⟨rfl, hlt⟩]
     rw [hn] at h
     cases h
     unfold applyE effSt
     simp only [Tree.get]
     rw [hpe]
     simp only [killSt, updAll, addNew, killFr']
     rw [map_upd]
     rfl
    ·cases h
   ·cases h
 | _ => exact viaVal h
end
open Go
section
variable {P : Program} {E : Env} {w w' : World} {σ σ' : Sg} {st st' : St E.T} {fr : Fr E.T} {a : Act} {S : FuncId → Option (Spec E)} {fx : List Nat} {M : Nat → Prop}
variable {K : Act → World → Prop} {Q : Exit → Act → World → Prop}
mutual
theorem VT.noRef {id : Nat} (hd : nth? st id = some .dead) : ∀ {t : Ty} {d : DVal E.T} {cs : List Value}, VT E σ st w M t d cs → id ∉ D.refs d
 | _, _, _, .val t x cs h => by simp [D.refs]
 | _, _, _, .nils e a => by simp [D.refs]
 | _, _, _, .own k l e xs h => by
  simp only [D.refs, List.mem_singleton]
  rintro rfl
  rw [hd] at h; cases h
 | _, _, _, .stale e v h => by simp [D.refs]
 | _, _, _, .agg i fs cs h => by unfold D.refs; exact VTs.noRef hd h
theorem VTs.noRef {id : Nat} (hd : nth? st id = some .dead) : ∀ {ts : List Ty} {ds : List (DVal E.T)} {cs : List Value}, VTs E σ st w M ts ds cs → id ∉ refsL ds
 | _, _, _, .nil => by simp [refsL]
 | _, _, _, .cons t ts v r c1 c2 h h' => by
  unfold refsL
  rw [List.mem_append, not_or]
  exact ⟨VT.noRef hd h, VTs.noRef hd h'⟩
end
mutual
theorem VRep.noRef {id : Nat} (hd : nth? st id = some .dead) (hb : blk (σ id) = none) : ∀ {d : DVal E.T} {v : Value}, VRep E σ st w M d v → id ∉ D.refs d
 | _, _, .undef v => by simp [D.refs]
 | _, _, .data t d cs h => VT.noRef hd h
 | _, _, .ptr o p b h hl => by
  simp only [D.refs, List.mem_singleton]
  rintro rfl
  rw [hb] at h; cases h
 | _, _, .nilptr => by simp [D.refs]
 | _, _, .rptr t x a cs h hm => by simp [D.refs]
 | _, _, .tup vs us h => by unfold D.refs; exact VReps.noRef hd hb h
 | _, _, .fn f vs us h => by unfold D.refs; exact VReps.noRef hd hb h
 | _, _, .nilfn => by simp [D.refs]
 | _, _, .ifc t d v h => by unfold D.refs; exact VRep.noRef hd hb h
 | _, _, .nilifc => by simp [D.refs]
theorem VReps.noRef {id : Nat} (hd : nth? st id = some .dead) (hb : blk (σ id) = none) : ∀ {ds : List (DVal E.T)} {us : List Value}, VReps E σ st w M ds us → id ∉ refsL ds
 | _, _, .nil => by simp [refsL]
 | _, _, .cons v r u us h h' => by
  unfold refsL
  rw [List.mem_append, not_or]
  exact ⟨VRep.noRef hd hb h, VReps.noRef hd hb h'⟩
end
theorem DReps.noRef {id : Nat} (hd : nth? st id = some .dead) (hb : blk (σ id) = none) : ∀ {ds : List (FuncId × List (DVal E.T))} {us : List Deferred}, DReps E σ st w M ds us → id ∉ ds.flatMap fun x => refsL x.2
 | _, _, .nil => by simp
 | _, _, .cons g as args cap ds dds h h' => by
  rw [List.flatMap_cons, List.mem_append, not_or]
  exact ⟨VReps.noRef hd hb h, DReps.noRef hd hb h'⟩
theorem objRefs_noRef {id : Nat} (hst : StRep E σ st w) (hd : nth? st id = some .dead) (hb : blk (σ id) = none) {o : Nat} {ob : Obj E.T} (h : nth? st o = some ob) : id ∉ objRefs E ob := by
 have := hst.obj o ob h
 generalize σ o = u at this
 cases this with
 | box ro d b c el fr hh hf hc =>
  simp only [objRefs]
  rcases hc with ⟨t, ht⟩ | ⟨_, v, _, _, hv⟩
  ·exact VT.noRef hd ht
  ·exact VRep.noRef hd hb hv
 | arr l e xs v h => simp [objRefs]
 | dead v => simp [objRefs]
theorem wake (hst : StRep E σ st w) {σ1 : Sg} {id : Nat} {v : Value} {ob : Obj E.T} (hd : nth? st id = some .dead) (hb : blk (σ id) = none) (hod : isDead ob = false) (m : Mv σ σ1 st (st ++ [ob]) w w') (hv : σ1 st.length = v)
  (hr : ∀ k ∈ objRefs E ob, k < st.length ∧ k ≠ id) :
  StRep E (setN σ id v) (upd st id ob) w' ∧ Keep (MB σ st) (MB (setN σ id v) (upd st id ob)) w w' ∧ ∀ k, k < st.length → k ≠ id → Same σ (setN σ id v) st (upd st id ob) k := by
 have hlt := nth?_lt hd
 have hnew : nth? (st ++ [ob]) st.length = some ob := by rw [nth?_append, if_pos rfl]
 have hold : ∀ {o ob'}, nth? st o = some ob' → nth? (st ++ [ob]) o = some ob' := fun ho => by rw [nth?_append, if_neg (Nat.ne_of_lt (nth?_lt ho))]; exact ho
 have hname : ∀ {o ob'}, nth? st o = some ob' → σ1 o = σ o := fun ho => m.name _ (nth?_lt ho)
 have hin : ∀ o ob', nth? (upd st id ob) o = some ob' → (o = id ∧ ob' = ob) ∨ (o ≠ id ∧ nth? st o = some ob') := by
  intro o ob' ho
  rw [nth?_upd] at ho
  by_cases hoi : id = o
  ·subst hoi
   rw [if_pos ⟨rfl, hlt⟩] at ho
   cases ho
   exact .inl ⟨rfl, rfl⟩
  ·rw [if_neg (fun h => hoi h.1)] at ho
   exact .inr ⟨fun h => hoi h.symm, ho⟩
 have hM : ∀ b, MB (setN σ id v) (upd st id ob) b → MB σ1 (st ++ [ob]) b := by
  rintro b (h | ⟨o, ob', ho, hm, hbo⟩)
  ·exact .inl (by rw [m.amb.m]; exact h)
  ·rcases hin o ob' ho with ⟨rfl, rfl⟩ | ⟨hoi, ho1⟩
   ·rw [setN_at] at hbo
    exact .inr ⟨st.length, _, hnew, hm, by rw [hv]; exact hbo⟩
   ·rw [setN_ne hoi] at hbo
    exact .inr ⟨o, ob', hold ho1, hm, by rw [hname ho1]; exact hbo⟩
 have same1 : ∀ k, k < st.length → k ≠ id → Same σ1 (setN σ id v) (st ++ [ob]) (upd st id ob) k := by
  intro k hk hki
  refine ⟨by rw [setN_ne hki, m.name k hk], fun l e xs hh => ⟨l, xs, ?_⟩, fun _ => by rw [length_upd]; exact hk⟩
  rw [nth?_append, if_neg (Nat.ne_of_lt hk)] at hh
  rw [nth?_upd, if_neg (fun h => hki h.1.symm)]
  exact hh
 refine ⟨⟨fun o ob' ho => ?_, fun o o' ob1 ob2 b hne ho ho' hm hdd h1 h2 => ?_, fun b hbb => m.rep.amb b (by rw [m.amb.m]; exact hbb), fun o ob' b ho hdd h1 => ?_⟩, ⟨m.keep.os, m.keep.tape, m.keep.output, m.keep.size, m.keep.block, fun b hb' h => m.keep.may b hb' (hM b h)⟩, fun k hk hki => ?_⟩
 ·rcases hin o ob' ho with ⟨rfl, rfl⟩ | ⟨hoi, ho1⟩
  ·have := m.rep.obj _ _ hnew
   rw [hv] at this
   rw [setN_at]
   exact ObRep.keep (Kept.weaken hM) (fun _ _ => rfl) (fun k hk => same1 k (hr k hk).1 (hr k hk).2) this
  ·have := m.rep.obj _ _ (hold ho1)
   rw [hname ho1] at this
   rw [setN_ne hoi]
   exact ObRep.keep (Kept.weaken hM) (fun _ _ => rfl) (fun k hk => same1 k (objRefs_lt hst ho1 k hk) (fun e => objRefs_noRef hst hd hb ho1 (e ▸ hk))) this
 ·rcases hin o ob1 ho with ⟨rfl, e1⟩ | ⟨hoi, ho1⟩
  ·rcases hin o' ob2 ho' with ⟨rfl, e2⟩ | ⟨hoi', ho2⟩
   ·exact hne rfl
   ·subst e1
    rw [setN_at] at h1
    rw [setN_ne hoi'] at h2
    exact m.rep.apart _ _ _ _ b (fun e => absurd (nth?_lt ho2) (by omega)) hnew (hold ho2) hm hdd (by rw [hv]; exact h1) (by rw [hname ho2]; exact h2)
  ·rcases hin o' ob2 ho' with ⟨rfl, e2⟩ | ⟨hoi', ho2⟩
   ·subst e2
    rw [setN_ne hoi] at h1
    rw [setN_at] at h2
    exact m.rep.apart _ _ _ _ b (fun e => absurd (nth?_lt ho1) (by omega)) (hold ho1) hnew hm hdd (by rw [hname ho1]; exact h1) (by rw [hv]; exact h2)
   ·rw [setN_ne hoi] at h1
    rw [setN_ne hoi'] at h2
    exact m.rep.apart _ _ _ _ b hne (hold ho1) (hold ho2) hm hdd (by rw [hname ho1]; exact h1) (by rw [hname ho2]; exact h2)
 ·show ¬ σ.m b
  rw [← m.amb.m]
  rcases hin o ob' ho with ⟨rfl, e1⟩ | ⟨hoi, ho1⟩
  ·subst e1
   rw [setN_at] at h1
   exact m.rep.out _ _ b hnew hdd (by rw [hv]; exact h1)
  ·rw [setN_ne hoi] at h1
   exact m.rep.out _ _ b (hold ho1) hdd (by rw [hname ho1]; exact h1)
 ·have h1 := m.same k hk
  have h2 := same1 k hk hki
  refine ⟨h2.at_.trans h1.at_, fun l e xs hh => ?_, fun h => h2.lt (h1.lt h)⟩
  obtain ⟨l1, xs1, hh1⟩ := h1.arr l e xs hh
  exact h2.arr l1 e xs1 hh1
theorem frRep_wake {id : Nat} (hd : nth? st id = some .dead) (hb : blk (σ id) = none) (hfr : FrRep E σ st w fr a) (kp : Kept (MB σ st) (MB σ' st') w w') (hs : ∀ k, k < st.length → k ≠ id → Same σ σ' st st' k) : FrRep E σ' st' w' fr a :=
 frRep_same hfr kp (fun k hk => hs k (frRefs_lt hfr k hk) (fun e => by
  subst e
  unfold frRefs at hk
  rcases List.mem_append.1 hk with hk | hk
  ·exact VReps.noRef hd hb hfr.s hk
  ·exact DReps.noRef hd hb hfr.d hk))
theorem Mf.wake {σ0 : Sg} {st0 : St E.T} {w0 : World} {id : Nat} {v : Value} {ob : Obj E.T} (m : Mf σ0 σ st0 st w0 w) (hid : st0.length ≤ id) (hr : StRep E (setN σ id v) (upd st id ob) w') (hk : Keep (MB σ st) (MB (setN σ id v) (upd st id ob)) w w') (hamb : ∀ b, σ.m b → w'.heap[b]? = w.heap[b]?) :
  Mf σ0 (setN σ id v) st0 (upd st id ob) w0 w' := by
 refine ⟨hr, m.keep.trans hk, ⟨fun o ob' ho hl => ?_, fun o ob' ho => ?_⟩, m.amb.trans ⟨rfl, hamb⟩⟩
 ·have hlt := nth?_lt ho
  rw [setN_ne (by omega)]
  exact m.stay.same o ob' ho hl
 ·obtain ⟨ob2, h1, h2, h3⟩ := m.stay.kind o ob' ho
  have hlt := nth?_lt ho
  exact ⟨ob2, by rw [nth?_upd, if_neg (fun h => by omega)]; exact h1, h2, h3⟩
theorem maker_ok (HS : Sound P E) {o : Oper} {e : Eff E.T} {id : Nat} (hst : StRep E σ st w) (hfr : FrRep E σ st w fr a) (hm : makes E o.op = true) (h : (deff E S fx (dget E fr) st id o.op).get = some e) (hb : blk (σ id) = none) {σ0 : Sg} {st0 : St E.T} {w0 : World} (m0 : Mf σ0 σ st0 st w0 w) (hid : st0.length ≤ id)
  (hK : ∀ σ' w' a' v ob, e.res = .val v → e.ups = [(id, ob)] → e.ks = [] → e.news = [] → Mf σ0 σ' st0 (upd st id ob) w0 w' → (∀ k, k ≠ id → σ' k = σ k) → FrRep E σ' (upd st id ob) w' (put E fr o.dst v) a' → K a' w') : o.wp P a w K Q := by
 have fin : ∀ {y : Value} {w' : World} {ob : Obj E.T} {v : DVal E.T} {σ1 : Sg}, nth? st id = some .dead → isDead ob = false → (execOp a.eval o).run P w = .ok (.value y) w' → Mv σ σ1 st (st ++ [ob]) w w' → σ1 st.length = y → (∀ k ∈ objRefs E ob, k < st.length ∧ k ≠ id) →
   (StRep E (setN σ id y) (upd st id ob) w' → VRep E (setN σ id y) (upd st id ob) w' (MB (setN σ id y) (upd st id ob)) v y) → e = { res := .val v, ups := [(id, ob)], ks := [], news := [] } → o.wp P a w K Q := by
  intro y w' ob v σ1 hd hod hrun m hy hr hv he
  subst he
  obtain ⟨h1, h2, h3⟩ := wake hst hd hb hod m hy hr
  refine wp_val hrun (hK _ w' _ v ob rfl rfl rfl rfl (Mf.wake m0 hid h1 h2 m.amb.hid) (fun k hk => setN_ne hk) (put_ok (frRep_wake hd hb hfr h2.kept h3) o.dst (hv h1)))
 obtain ⟨dst, op, type, pos, aft, guard⟩ := o
 simp only at h hm fin
 cases op with
 | alloc t =>
  simp only [deff] at h
  have ht : E.tk t ≠ .other := by intro hk; rw [hk] at h; cases h
  have h' : isDeadAt E st id = true ∧ e = { res := .val (.ptr id []), ups := [(id, .box false (zeroV E t))], ks := [], news := [] } := by
   split at h
   ·cases h
   ·obtain ⟨hd, h⟩ := Tree.get_need h
    cases h; exact ⟨hd, rfl⟩
  obtain ⟨hd, he⟩ := h'
  have hd := deadAt hd
  obtain ⟨u, hu, hv, hf⟩ := zeroV_ok HS hst ht
  obtain ⟨m, hvp⟩ := new_var HS hst hf hv
  refine fin (y := .pointer (some ⟨w.heap.size, 0, none⟩)) (w' := w.alloc (.cells u.cells t)) hd rfl (by simp [execOp, Instr.alloc, hu, run_newVar]) m setN_at (fun k hk => by simp only [objRefs, zeroV_refs] at hk; cases hk) (fun _ => ?_) he
  exact .ptr id [] w.heap.size (by rw [setN_at]; rfl) (by rw [length_upd]; exact nth?_lt hd)
 | box t x =>
  simp only [deff] at h
  obtain ⟨hd, h⟩ := Tree.get_need h
  cases h
  rw [Bool.and_eq_true] at hd
  have hdd := deadAt hd.1
  have hx := dget_ok hfr x
  obtain ⟨m, hvp⟩ := new_var HS hst hd.2 hx
  refine fin (y := .pointer (some ⟨w.heap.size, 0, none⟩)) (w' := w.alloc (.cells (a.eval x).cells t)) hdd rfl (by simp [execOp, Instr.box, run_newVar]) m setN_at (fun k hk => ⟨VRep.refs hx k hk, fun e => VRep.noRef hdd hb hx (e ▸ hk)⟩) (fun _ => ?_) rfl
  exact .ptr id [] w.heap.size (by rw [setN_at]; rfl) (by rw [length_upd]; exact nth?_lt hdd)
 | convert s d x =>
  simp only [deff] at h
  split at h
  ·rename_i hdt
   have hx := dget_ok hfr x
   split at h
   ·rename_i b hxv
    obtain ⟨hd, h⟩ := Tree.get_need h
    cases h
    rw [Bool.and_eq_true] at hd
    have hdd := deadAt hd.2
    rw [hxv] at hx
    have hdc : (dconv E st s d (.val .str b)).get = some (.own st.length, st ++ [.arr .live (.int .u8) b]) := by
     unfold dconv
     have hs : isData E s = true := by unfold isData; rw [isTy_eq hd.1]
     rw [hs, hdt]
     simp only [Tree.need]
     rw [hd.1]
     rfl
    obtain ⟨y, w', σ1, hrun, m, hv⟩ := dconv_ok HS hst hdc hx
    refine fin (y := y) (w' := w') hdd rfl (by simp [execOp, hrun]) m (ownRep hv).symm (fun k hk => by simp [objRefs] at hk) (fun _ => ?_) rfl
    have h1 := VRep.data _ _ _ (VT.own (E := E) (σ := setN σ id y) (st := upd st id (.arr .live (.int .u8) b)) (w := w') (M := MB (setN σ id y) (upd st id (.arr .live (.int .u8) b))) id .live (.int .u8) b (by rw [nth?_upd, if_pos ⟨rfl, nth?_lt hdd⟩]))
    rw [setN_at] at h1
    exact h1
   ·cases h
  ·rename_i hdt
   exfalso
   have hs : ∃ e', E.tk d = .data (.slice e') := by
    simp only [makes, isSl] at hm
    split at hm
    ·exact ⟨_, by assumption⟩
    ·cases hm
   obtain ⟨e', he'⟩ := hs
   simp only [dval, he'] at h
   cases h
 | makeSlice t l c =>
  simp only [deff] at h
  obtain ⟨p, hp, h⟩ := Tree.get_bind_some h
  split at h
  ·rename_i e' xs hp1
   obtain ⟨hd, h⟩ := Tree.get_need h
   cases h
   have hdd := deadAt hd
   have hdm : (dmakeSlice E false st t (dget E fr l) (dget E fr c)).get = some (.own st.length, st ++ [.arr .live e' xs]) := by
    unfold dmakeSlice at hp ⊢
    split at hp
    ·obtain ⟨h1, h2⟩ := ite_get hp
     obtain ⟨z, hz, h3⟩ := Tree.get_bind_some h2
     cases h3
     cases hp1
     simp only [Tree.get, h1, cond_true]
     rw [Tree.get_bind, hz]
     rfl
    ·cases hp
   obtain ⟨y, w', σ1, hrun, m, hv⟩ := dmakeSlice_ok HS hst (dget_ok hfr l) (dget_ok hfr c) hdm
   refine fin (y := y) (w' := w') hdd rfl (by simp [execOp, hrun]) m (ownRep hv).symm (fun k hk => by simp [objRefs] at hk) (fun _ => ?_) rfl
   have h1 := VRep.data _ _ _ (VT.own (E := E) (σ := setN σ id y) (st := upd st id (.arr .live e' xs)) (w := w') (M := MB (setN σ id y) (upd st id (.arr .live e' xs))) id .live e' xs (by rw [nth?_upd, if_pos ⟨rfl, nth?_lt hdd⟩]))
   rw [setN_at] at h1
   exact h1
  ·cases h
 | _ => cases hm
end
end Go.Proofs.YthabbcjjecpbmaaGreat.D
