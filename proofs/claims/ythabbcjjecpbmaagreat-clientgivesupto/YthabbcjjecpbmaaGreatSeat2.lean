/- The nice functions: what the program's functions come to. -/
import Derived.Test.YthabbcjjecpbmaaGreatBase6
set_option linter.unusedVariables false
set_option linter.unusedSimpArgs false
set_option maxRecDepth 10000
namespace Go.Proofs.YthabbcjjecpbmaaGreat.N
noncomputable section
variable (n_ : Nat)

/-! tenancy/client.New -/
@[reducible] def client_New_k {α : Type} (k : TClient → α) (id_ : Int) : α :=
  k (TClient.mk id_ 0 0 0 [(TCache.mk 0 0 0 [] [] 0 false false), (TCache.mk 0 0 0 [] [] 0 false false), (TCache.mk 0 0 0 [] [] 0 false false), (TCache.mk 0 0 0 [] [] 0 false false), (TCache.mk 0 0 0 [] [] 0 false false), (TCache.mk 0 0 0 [] [] 0 false false)] [[], [], [], [], [], []] (TOut.mk false (TAsk.mk 0 0 0 0 [] 0 0 []) 0 0) 0 0 0)
def client_New (id_ : Int) : TClient := client_New_k id id_
theorem client_New_bind {α : Type} (k : TClient → α) (id_ : Int) : client_New_k k id_ = k (client_New id_) := by
  unfold client_New client_New_k; simp only [Bool.apply_cond k, id]

/-! tenancy/client.twin -/
@[reducible] def client_twin_k {α : Type} (k : Unit → α) (a : TAsk) : α :=
  k ()
def client_twin (a : TAsk) : Unit := client_twin_k id a
theorem client_twin_bind {α : Type} (k : Unit → α) (a : TAsk) : client_twin_k k a = k (client_twin a) := by
  unfold client_twin client_twin_k; simp only [Bool.apply_cond k, id]

/-! tenancy/cache.twin -/
@[reducible] def cache_twin_k {α : Type} (k : Unit → α) (c : TCache) : α :=
  k ()
def cache_twin (c : TCache) : Unit := cache_twin_k id c
theorem cache_twin_bind {α : Type} (k : Unit → α) (c : TCache) : cache_twin_k k c = k (cache_twin c) := by
  unfold cache_twin cache_twin_k; simp only [Bool.apply_cond k, id]

/-! tenancy/cache.Valid -/
@[reducible] def cache_Valid_k {α : Type} (k : Int → α) (c : TCache) (now : Int) : α :=
  bif (decide (now ≥ c.Until)) then k 0
  else k c.Mode
def cache_Valid (c : TCache) (now : Int) : Int := cache_Valid_k id c now
theorem cache_Valid_bind {α : Type} (k : Int → α) (c : TCache) (now : Int) : cache_Valid_k k c now = k (cache_Valid c now) := by
  unfold cache_Valid cache_Valid_k; simp only [Bool.apply_cond k, id]

/-! tenancy/cache.Reset -/
@[reducible] def cache_Reset_k {α : Type} (k : TCache → α) (c : TCache) : α :=
  bif c.Lost then k (TCache.mk 0 0 0 [] [] 0 false true)
  else k (TCache.mk 0 0 0 [] [] 0 false (decide ((c.Dirty.length : Int) > 0)))
def cache_Reset (c : TCache) : TCache := cache_Reset_k id c
theorem cache_Reset_bind {α : Type} (k : TCache → α) (c : TCache) : cache_Reset_k k c = k (cache_Reset c) := by
  unfold cache_Reset cache_Reset_k; simp only [Bool.apply_cond k, id]

/-! tenancy/cache.Lapse -/
@[reducible] def cache_Lapse_k {α : Type} (k : TCache → α) (c : TCache) (now : Int) : α :=
  bif (c.Mode == 0) then k c
  else bif ((cache_Valid c now) != 0) then k c
    else k (cache_Reset c)
def cache_Lapse (c : TCache) (now : Int) : TCache := cache_Lapse_k id c now
theorem cache_Lapse_bind {α : Type} (k : TCache → α) (c : TCache) (now : Int) : cache_Lapse_k k c now = k (cache_Lapse c now) := by
  unfold cache_Lapse cache_Lapse_k; simp only [Bool.apply_cond k, id]

/-! tenancy/client.of -/
@[reducible] def client_of_s0k {α : Type} (t37 : Int) (c : TClient) (kc : (Int × Tclient_work) → Option α) (k0 : Tclient_work → Option α) (t38 : Int) (w : Tclient_work) : Option α :=
  bif (decide (t38 < t37)) then (bif (inR t38 w.Client.Files.length) then (((w.Client.Files[t38.toNat]?)).bind fun y_1 =>
      bif (inR t38 w.Client.Files.length) then (((w.Client.Files[t38.toNat]?)).bind fun y_2 =>
        kc ((wi64 (t38 + 1)), (Tclient_work.mk (TClient.mk w.Client.ID w.Client.Now w.Client.Epoch w.Client.Seq (w.Client.Files.set t38.toNat (cache_Lapse y_1 c.Now)) w.Client.Names w.Client.Out w.Client.Bad w.Client.Hits w.Client.Asks) [])))
      else none)
    else none)
  else k0 (Tclient_work.mk w.Client [])
def client_of_s0 (t37 : Int) (c : TClient) (v_ : Int × Tclient_work) : Option ((Int × Tclient_work) ⊕ Tclient_work) := client_of_s0k t37 c (fun x => some (.inl x)) (fun x => some (.inr x)) v_.1 v_.2
def client_of_l0 (t37 : Int) (c : TClient) (t38 : Int) (w : Tclient_work) : Option Tclient_work := iter (client_of_s0 t37 c) n_ (t38, w)
theorem client_of_s0_bind {α : Type} (t37 : Int) (c : TClient) (kc : (Int × Tclient_work) → Option α) (k0 : Tclient_work → Option α) (t38 : Int) (w : Tclient_work) : client_of_s0k t37 c kc k0 t38 w = (client_of_s0 t37 c (t38, w)).bind fun s_ => alt s_ kc k0 := by
  unfold client_of_s0 client_of_s0k; simp only [bind_cond, Option.bind_assoc, alt_bind, Option.bind_some, Option.bind_none, alt_inl, alt_inr]
@[reducible] def client_of_k {α : Type} (k0 : Tclient_work → Option α) (c : TClient) : Option α :=
  ((client_of_l0 n_ (c.Files.length : Int) c 0 (Tclient_work.mk c []))).bind fun r_1 =>
  k0 (Tclient_work.mk r_1.Client [])
def client_of (c : TClient) : Option Tclient_work := client_of_k n_ (fun x => some x) c
theorem client_of_bind {α : Type} (k0 : Tclient_work → Option α) (c : TClient) : client_of_k n_ k0 c = (client_of n_ c).bind k0 := by
  unfold client_of client_of_k; simp only [bind_cond, Option.bind_assoc, alt_bind, Option.bind_some, Option.bind_none, alt_inl, alt_inr]

/-! (*tenancy/client.work).says -/
@[reducible] def client_work_says_k {α : Type} (k : Tclient_told → α) (e : Int) (w : Tclient_work) : α :=
  k (Tclient_told.mk (TAns.mk e 0 []))
def client_work_says (e : Int) (w : Tclient_work) : Tclient_told := client_work_says_k id e w
theorem client_work_says_bind {α : Type} (k : Tclient_told → α) (e : Int) (w : Tclient_work) : client_work_says_k k e w = k (client_work_says e w) := by
  unfold client_work_says client_work_says_k; simp only [Bool.apply_cond k, id]

/-! tenancy/dir.May -/
@[reducible] def dir_May_s0k {α : Type} (name : List UInt8) (t7 : Int) (r0 : List UInt8) (kc : Int → Option α) (k0 : Unit → Option α) (k1 : Unit → Option α) (t8 : Int) : Option α :=
  bif (decide (t8 < t7)) then (bif (inR t8 r0.length) then (((r0[t8.toNat]?)).bind fun y_1 =>
      bif (decide ((i8 y_1) < 33)) then k0 ()
      else bif (decide ((i8 y_1) > 126)) then k0 ()
        else kc (wi64 (t8 + 1)))
    else none)
  else k1 ()
def dir_May_s0 (name : List UInt8) (t7 : Int) (r0 : List UInt8) (v_ : Int) : Option (Int ⊕ (Unit ⊕ Unit)) := dir_May_s0k name t7 r0 (fun x => some (.inl x)) (fun x => some (.inr (.inl x))) (fun x => some (.inr (.inr x))) v_
def dir_May_l0 (name : List UInt8) (t7 : Int) (r0 : List UInt8) (t8 : Int) : Option (Unit ⊕ Unit) := iter (dir_May_s0 name t7 r0) n_ t8
theorem dir_May_s0_bind {α : Type} (name : List UInt8) (t7 : Int) (r0 : List UInt8) (kc : Int → Option α) (k0 : Unit → Option α) (k1 : Unit → Option α) (t8 : Int) : dir_May_s0k name t7 r0 kc k0 k1 t8 = (dir_May_s0 name t7 r0 t8).bind fun s_ => alt s_ kc (fun s0_ => alt s0_ k0 k1) := by
  unfold dir_May_s0 dir_May_s0k; simp only [bind_cond, Option.bind_assoc, alt_bind, Option.bind_some, Option.bind_none, alt_inl, alt_inr]
@[reducible] def dir_May_k {α : Type} (k0 : Bool → Option α) (name : List UInt8) : Option α :=
  ((dir_May_l0 n_ name (name.length : Int) name 0)).bind fun r_1 =>
  alt r_1 (fun a_2 =>
    k0 false) (fun b_3 =>
    bif (decide ((name.length : Int) ≥ 1)) then k0 (decide ((name.length : Int) ≤ 8))
    else k0 false)
def dir_May (name : List UInt8) : Option Bool := dir_May_k n_ (fun x => some x) name
theorem dir_May_bind {α : Type} (k0 : Bool → Option α) (name : List UInt8) : dir_May_k n_ k0 name = (dir_May n_ name).bind k0 := by
  unfold dir_May dir_May_k; simp only [bind_cond, Option.bind_assoc, alt_bind, Option.bind_some, Option.bind_none, alt_inl, alt_inr]

/-! slices.Index[[]string,string] -/
@[reducible] def slices_Index_string_s0k {α : Type} (s : List (List UInt8)) (v : List UInt8) (t7 : Int) (kc : Int → Option α) (k0 : Int → Option α) (k1 : Unit → Option α) (t8 : Int) : Option α :=
  bif (decide (t8 < t7)) then (bif (inR t8 s.length) then (((s[t8.toNat]?)).bind fun y_1 =>
      bif (v == y_1) then k0 t8
      else kc (wi64 (t8 + 1)))
    else none)
  else k1 ()
def slices_Index_string_s0 (s : List (List UInt8)) (v : List UInt8) (t7 : Int) (v_ : Int) : Option (Int ⊕ (Int ⊕ Unit)) := slices_Index_string_s0k s v t7 (fun x => some (.inl x)) (fun x => some (.inr (.inl x))) (fun x => some (.inr (.inr x))) v_
def slices_Index_string_l0 (s : List (List UInt8)) (v : List UInt8) (t7 : Int) (t8 : Int) : Option (Int ⊕ Unit) := iter (slices_Index_string_s0 s v t7) n_ t8
theorem slices_Index_string_s0_bind {α : Type} (s : List (List UInt8)) (v : List UInt8) (t7 : Int) (kc : Int → Option α) (k0 : Int → Option α) (k1 : Unit → Option α) (t8 : Int) : slices_Index_string_s0k s v t7 kc k0 k1 t8 = (slices_Index_string_s0 s v t7 t8).bind fun s_ => alt s_ kc (fun s0_ => alt s0_ k0 k1) := by
  unfold slices_Index_string_s0 slices_Index_string_s0k; simp only [bind_cond, Option.bind_assoc, alt_bind, Option.bind_some, Option.bind_none, alt_inl, alt_inr]
@[reducible] def slices_Index_string_k {α : Type} (k0 : Int → Option α) (s : List (List UInt8)) (v : List UInt8) : Option α :=
  ((slices_Index_string_l0 n_ s v (s.length : Int) 0)).bind fun r_1 =>
  alt r_1 (fun a_2 =>
    k0 a_2) (fun b_3 =>
    k0 (-1))
def slices_Index_string (s : List (List UInt8)) (v : List UInt8) : Option Int := slices_Index_string_k n_ (fun x => some x) s v
theorem slices_Index_string_bind {α : Type} (k0 : Int → Option α) (s : List (List UInt8)) (v : List UInt8) : slices_Index_string_k n_ k0 s v = (slices_Index_string n_ s v).bind k0 := by
  unfold slices_Index_string slices_Index_string_k; simp only [bind_cond, Option.bind_assoc, alt_bind, Option.bind_some, Option.bind_none, alt_inl, alt_inr]

/-! (*tenancy/client.work).free -/
@[reducible] def client_work_free_k {α : Type} (k0 : Unit → Option α) (k1 : Tclient_told → Option α) (w : Tclient_work) : Option α :=
  bif w.Client.Out.Is then k1 (client_work_says 4 (Tclient_work.mk w.Client []))
  else k0 ()
def client_work_free (w : Tclient_work) : Option (Unit ⊕ Tclient_told) := client_work_free_k (fun x => some (.inl x)) (fun x => some (.inr x)) w
theorem client_work_free_bind {α : Type} (k0 : Unit → Option α) (k1 : Tclient_told → Option α) (w : Tclient_work) : client_work_free_k k0 k1 w = (client_work_free w).bind (fun s0_ => alt s0_ k0 k1) := by
  unfold client_work_free client_work_free_k; simp only [bind_cond, Option.bind_assoc, alt_bind, Option.bind_some, Option.bind_none, alt_inl, alt_inr]

/-! (*tenancy/client.work).again -/
@[reducible] def client_work_again_k {α : Type} (k : Tclient_work → α) (w : Tclient_work) : α :=
  k (Tclient_work.mk (TClient.mk w.Client.ID w.Client.Now w.Client.Epoch w.Client.Seq w.Client.Files w.Client.Names (TOut.mk w.Client.Out.Is w.Client.Out.Ask w.Client.Out.First w.Client.Now) w.Client.Bad w.Client.Hits w.Client.Asks) [w.Client.Out.Ask])
def client_work_again (w : Tclient_work) : Tclient_work := client_work_again_k id w
theorem client_work_again_bind {α : Type} (k : Tclient_work → α) (w : Tclient_work) : client_work_again_k k w = k (client_work_again w) := by
  unfold client_work_again client_work_again_k; simp only [Bool.apply_cond k, id]

/-! (*tenancy/client.work).asks -/
@[reducible] def client_work_asks_k {α : Type} (k : Tclient_work → α) (a : TAsk) (w : Tclient_work) : α :=
  k (client_work_again (Tclient_work.mk (TClient.mk w.Client.ID w.Client.Now w.Client.Epoch (wi64 (w.Client.Seq + 1)) w.Client.Files w.Client.Names (TOut.mk true (TAsk.mk a.Kind w.Client.ID w.Client.Epoch (wi64 (w.Client.Seq + 1)) a.Name a.File a.Mode a.Writes) w.Client.Now 0) w.Client.Bad w.Client.Hits (wi64 (w.Client.Asks + 1))) []))
def client_work_asks (a : TAsk) (w : Tclient_work) : Tclient_work := client_work_asks_k id a w
theorem client_work_asks_bind {α : Type} (k : Tclient_work → α) (a : TAsk) (w : Tclient_work) : client_work_asks_k k a w = k (client_work_asks a w) := by
  unfold client_work_asks client_work_asks_k; simp only [Bool.apply_cond k, id]

/-! (*tenancy/client.work).opens -/
@[reducible] def client_work_opens_k {α : Type} (k0 : Tclient_work → Option α) (k1 : (Tclient_told × Tclient_work) → Option α) (name : List UInt8) (w : Tclient_work) : Option α :=
  ((dir_May n_ name)).bind fun r_1 =>
  bif (!r_1) then k1 ((client_work_says 1 (Tclient_work.mk w.Client [])), (Tclient_work.mk w.Client []))
  else ((slices_Index_string n_ w.Client.Names name)).bind fun r_2 =>
    bif (decide (r_2 ≥ 0)) then k1 ((Tclient_told.mk (TAns.mk 0 (wi64 (r_2 + 1)) [])), (Tclient_work.mk w.Client []))
    else ((client_work_free (Tclient_work.mk w.Client []))).bind fun r_3 =>
      alt r_3 (fun a_4 =>
        k0 (client_work_asks (TAsk.mk 1 0 0 0 name 0 0 []) (Tclient_work.mk w.Client []))) (fun b_5 =>
        k1 (b_5, (Tclient_work.mk w.Client [])))
def client_work_opens (name : List UInt8) (w : Tclient_work) : Option (Tclient_work ⊕ (Tclient_told × Tclient_work)) := client_work_opens_k n_ (fun x => some (.inl x)) (fun x => some (.inr x)) name w
theorem client_work_opens_bind {α : Type} (k0 : Tclient_work → Option α) (k1 : (Tclient_told × Tclient_work) → Option α) (name : List UInt8) (w : Tclient_work) : client_work_opens_k n_ k0 k1 name w = (client_work_opens n_ name w).bind (fun s0_ => alt s0_ k0 k1) := by
  unfold client_work_opens client_work_opens_k; simp only [bind_cond, Option.bind_assoc, alt_bind, Option.bind_some, Option.bind_none, alt_inl, alt_inr]

/-! tenancy/file.May -/
@[reducible] def file_May_k {α : Type} (k : Bool → α) (w : TWrite) : α :=
  bif (decide (w.Off ≥ 0)) then (bif (decide ((w.B.length : Int) ≥ 1)) then (bif (decide ((w.B.length : Int) ≤ 24)) then k (decide (w.Off ≤ (wi64 (24 - (w.B.length : Int)))))
      else k false)
    else k false)
  else k false
def file_May (w : TWrite) : Bool := file_May_k id w
theorem file_May_bind {α : Type} (k : Bool → α) (w : TWrite) : file_May_k k w = k (file_May w) := by
  unfold file_May file_May_k; simp only [Bool.apply_cond k, id]

/-! (*tenancy/client.work).file -/
@[reducible] def client_work_file_k {α : Type} (k0 : Nat → Option α) (k1 : Unit → Option α) (n : Int) (w : Tclient_work) : Option α :=
  bif (decide (n < 1)) then k1 ()
  else bif (decide (n > (w.Client.Files.length : Int))) then k1 ()
    else bif (inR (wi64 (n - 1)) w.Client.Files.length) then k0 ((wi64 (n - 1)).toNat)
      else none
def client_work_file (n : Int) (w : Tclient_work) : Option (Nat ⊕ Unit) := client_work_file_k (fun x => some (.inl x)) (fun x => some (.inr x)) n w
theorem client_work_file_bind {α : Type} (k0 : Nat → Option α) (k1 : Unit → Option α) (n : Int) (w : Tclient_work) : client_work_file_k k0 k1 n w = (client_work_file n w).bind (fun s0_ => alt s0_ k0 k1) := by
  unfold client_work_file client_work_file_k; simp only [bind_cond, Option.bind_assoc, alt_bind, Option.bind_some, Option.bind_none, alt_inl, alt_inr]

/-! (*tenancy/client.work).says -/
@[reducible] def client_work_says_2_k {α : Type} (k : Tclient_told → α) (e : Int) (w : Tclient_work) : α :=
  k (Tclient_told.mk (TAns.mk e 0 []))
def client_work_says_2 (e : Int) (w : Tclient_work) : Tclient_told := client_work_says_2_k id e w
theorem client_work_says_2_bind {α : Type} (k : Tclient_told → α) (e : Int) (w : Tclient_work) : client_work_says_2_k k e w = k (client_work_says_2 e w) := by
  unfold client_work_says_2 client_work_says_2_k; simp only [Bool.apply_cond k, id]

/-! (*tenancy/client.work).file -/
@[reducible] def client_work_file_2_k {α : Type} (k0 : Nat → Option α) (k1 : Unit → Option α) (n : Int) (w : Tclient_work) : Option α :=
  bif (decide (n < 1)) then k1 ()
  else bif (decide (n > (w.Client.Files.length : Int))) then k1 ()
    else bif (inR (wi64 (n - 1)) w.Client.Files.length) then k0 ((wi64 (n - 1)).toNat)
      else none
def client_work_file_2 (n : Int) (w : Tclient_work) : Option (Nat ⊕ Unit) := client_work_file_2_k (fun x => some (.inl x)) (fun x => some (.inr x)) n w
theorem client_work_file_2_bind {α : Type} (k0 : Nat → Option α) (k1 : Unit → Option α) (n : Int) (w : Tclient_work) : client_work_file_2_k k0 k1 n w = (client_work_file_2 n w).bind (fun s0_ => alt s0_ k0 k1) := by
  unfold client_work_file_2 client_work_file_2_k; simp only [bind_cond, Option.bind_assoc, alt_bind, Option.bind_some, Option.bind_none, alt_inl, alt_inr]

/-! tenancy/file.Put -/
@[reducible] def file_Put_k {α : Type} (k0 : (List UInt8) → Option α) (body : List UInt8) (w : TWrite) : Option α :=
  bif (!(file_May w)) then k0 body
  else bif (decide ((wi64 (w.Off - (body.length : Int))) > 0)) then (bif (repOk ([0] : List UInt8) (wi64 (w.Off - (body.length : Int)))) then (bif (decide ((body.length + (repL ([0] : List UInt8) (wi64 (w.Off - (body.length : Int)))).length) ≤ lim)) then (bif (cutOk 0 w.Off (body ++ (repL ([0] : List UInt8) (wi64 (w.Off - (body.length : Int))))).length) then (bif (decide (((cutL (body ++ (repL ([0] : List UInt8) (wi64 (w.Off - (body.length : Int))))) 0 w.Off).length + w.B.length) ≤ lim)) then (bif (cutOk (imin (wi64 (w.Off + (w.B.length : Int))) ((body ++ (repL ([0] : List UInt8) (wi64 (w.Off - (body.length : Int))))).length : Int)) ((body ++ (repL ([0] : List UInt8) (wi64 (w.Off - (body.length : Int))))).length : Int) (body ++ (repL ([0] : List UInt8) (wi64 (w.Off - (body.length : Int))))).length) then (bif (decide ((((cutL (body ++ (repL ([0] : List UInt8) (wi64 (w.Off - (body.length : Int))))) 0 w.Off) ++ w.B).length + (cutL (body ++ (repL ([0] : List UInt8) (wi64 (w.Off - (body.length : Int))))) (imin (wi64 (w.Off + (w.B.length : Int))) ((body ++ (repL ([0] : List UInt8) (wi64 (w.Off - (body.length : Int))))).length : Int)) ((body ++ (repL ([0] : List UInt8) (wi64 (w.Off - (body.length : Int))))).length : Int)).length) ≤ lim)) then k0 (((cutL (body ++ (repL ([0] : List UInt8) (wi64 (w.Off - (body.length : Int))))) 0 w.Off) ++ w.B) ++ (cutL (body ++ (repL ([0] : List UInt8) (wi64 (w.Off - (body.length : Int))))) (imin (wi64 (w.Off + (w.B.length : Int))) ((body ++ (repL ([0] : List UInt8) (wi64 (w.Off - (body.length : Int))))).length : Int)) ((body ++ (repL ([0] : List UInt8) (wi64 (w.Off - (body.length : Int))))).length : Int)))
                else none)
              else none)
            else none)
          else none)
        else none)
      else none)
    else bif (cutOk 0 w.Off body.length) then (bif (decide (((cutL body 0 w.Off).length + w.B.length) ≤ lim)) then (bif (cutOk (imin (wi64 (w.Off + (w.B.length : Int))) (body.length : Int)) (body.length : Int) body.length) then (bif (decide ((((cutL body 0 w.Off) ++ w.B).length + (cutL body (imin (wi64 (w.Off + (w.B.length : Int))) (body.length : Int)) (body.length : Int)).length) ≤ lim)) then k0 (((cutL body 0 w.Off) ++ w.B) ++ (cutL body (imin (wi64 (w.Off + (w.B.length : Int))) (body.length : Int)) (body.length : Int)))
            else none)
          else none)
        else none)
      else none
def file_Put (body : List UInt8) (w : TWrite) : Option (List UInt8) := file_Put_k (fun x => some x) body w
theorem file_Put_bind {α : Type} (k0 : (List UInt8) → Option α) (body : List UInt8) (w : TWrite) : file_Put_k k0 body w = (file_Put body w).bind k0 := by
  unfold file_Put file_Put_k; simp only [bind_cond, Option.bind_assoc, alt_bind, Option.bind_some, Option.bind_none, alt_inl, alt_inr]

/-! tenancy/file.All -/
@[reducible] def file_All_s0k {α : Type} (t7 : List TWrite) (t8 : Int) (kc : (List UInt8 × Int) → Option α) (k0 : (List UInt8) → Option α) (body : List UInt8) (t9 : Int) : Option α :=
  bif (decide (t9 < t8)) then (bif (inR t9 t7.length) then (((t7[t9.toNat]?)).bind fun y_1 =>
      ((file_Put body y_1)).bind fun r_2 =>
      kc (r_2, (wi64 (t9 + 1))))
    else none)
  else k0 body
def file_All_s0 (t7 : List TWrite) (t8 : Int) (v_ : List UInt8 × Int) : Option ((List UInt8 × Int) ⊕ (List UInt8)) := file_All_s0k t7 t8 (fun x => some (.inl x)) (fun x => some (.inr x)) v_.1 v_.2
def file_All_l0 (t7 : List TWrite) (t8 : Int) (body : List UInt8) (t9 : Int) : Option (List UInt8) := iter (file_All_s0 t7 t8) n_ (body, t9)
theorem file_All_s0_bind {α : Type} (t7 : List TWrite) (t8 : Int) (kc : (List UInt8 × Int) → Option α) (k0 : (List UInt8) → Option α) (body : List UInt8) (t9 : Int) : file_All_s0k t7 t8 kc k0 body t9 = (file_All_s0 t7 t8 (body, t9)).bind fun s_ => alt s_ kc k0 := by
  unfold file_All_s0 file_All_s0k; simp only [bind_cond, Option.bind_assoc, alt_bind, Option.bind_some, Option.bind_none, alt_inl, alt_inr]
@[reducible] def file_All_k {α : Type} (k0 : (List UInt8) → Option α) (body : List UInt8) (l : List TWrite) : Option α :=
  ((file_All_l0 n_ l (l.length : Int) body 0)).bind fun r_1 =>
  k0 r_1
def file_All (body : List UInt8) (l : List TWrite) : Option (List UInt8) := file_All_k n_ (fun x => some x) body l
theorem file_All_bind {α : Type} (k0 : (List UInt8) → Option α) (body : List UInt8) (l : List TWrite) : file_All_k n_ k0 body l = (file_All n_ body l).bind k0 := by
  unfold file_All file_All_k; simp only [bind_cond, Option.bind_assoc, alt_bind, Option.bind_some, Option.bind_none, alt_inl, alt_inr]

/-! tenancy/cache.View -/
@[reducible] def cache_View_k {α : Type} (k0 : (List UInt8) → Option α) (c : TCache) : Option α :=
  ((file_All n_ c.Body c.Dirty)).bind fun r_1 =>
  k0 r_1
def cache_View (c : TCache) : Option (List UInt8) := cache_View_k n_ (fun x => some x) c
theorem cache_View_bind {α : Type} (k0 : (List UInt8) → Option α) (c : TCache) : cache_View_k n_ k0 c = (cache_View n_ c).bind k0 := by
  unfold cache_View cache_View_k; simp only [bind_cond, Option.bind_assoc, alt_bind, Option.bind_some, Option.bind_none, alt_inl, alt_inr]

/-! (*tenancy/client.work).free -/
@[reducible] def client_work_free_2_k {α : Type} (k0 : Unit → Option α) (k1 : Tclient_told → Option α) (w : Tclient_work) : Option α :=
  bif w.Client.Out.Is then k1 (client_work_says_2 4 (Tclient_work.mk w.Client []))
  else k0 ()
def client_work_free_2 (w : Tclient_work) : Option (Unit ⊕ Tclient_told) := client_work_free_2_k (fun x => some (.inl x)) (fun x => some (.inr x)) w
theorem client_work_free_2_bind {α : Type} (k0 : Unit → Option α) (k1 : Tclient_told → Option α) (w : Tclient_work) : client_work_free_2_k k0 k1 w = (client_work_free_2 w).bind (fun s0_ => alt s0_ k0 k1) := by
  unfold client_work_free_2 client_work_free_2_k; simp only [bind_cond, Option.bind_assoc, alt_bind, Option.bind_some, Option.bind_none, alt_inl, alt_inr]

/-! (*tenancy/client.work).again -/
@[reducible] def client_work_again_2_k {α : Type} (k : Tclient_work → α) (w : Tclient_work) : α :=
  k (Tclient_work.mk (TClient.mk w.Client.ID w.Client.Now w.Client.Epoch w.Client.Seq w.Client.Files w.Client.Names (TOut.mk w.Client.Out.Is w.Client.Out.Ask w.Client.Out.First w.Client.Now) w.Client.Bad w.Client.Hits w.Client.Asks) [w.Client.Out.Ask])
def client_work_again_2 (w : Tclient_work) : Tclient_work := client_work_again_2_k id w
theorem client_work_again_2_bind {α : Type} (k : Tclient_work → α) (w : Tclient_work) : client_work_again_2_k k w = k (client_work_again_2 w) := by
  unfold client_work_again_2 client_work_again_2_k; simp only [Bool.apply_cond k, id]

/-! (*tenancy/client.work).asks -/
@[reducible] def client_work_asks_2_k {α : Type} (k : Tclient_work → α) (a : TAsk) (w : Tclient_work) : α :=
  k (client_work_again_2 (Tclient_work.mk (TClient.mk w.Client.ID w.Client.Now w.Client.Epoch (wi64 (w.Client.Seq + 1)) w.Client.Files w.Client.Names (TOut.mk true (TAsk.mk a.Kind w.Client.ID w.Client.Epoch (wi64 (w.Client.Seq + 1)) a.Name a.File a.Mode a.Writes) w.Client.Now 0) w.Client.Bad w.Client.Hits (wi64 (w.Client.Asks + 1))) []))
def client_work_asks_2 (a : TAsk) (w : Tclient_work) : Tclient_work := client_work_asks_2_k id a w
theorem client_work_asks_2_bind {α : Type} (k : Tclient_work → α) (a : TAsk) (w : Tclient_work) : client_work_asks_2_k k a w = k (client_work_asks_2 a w) := by
  unfold client_work_asks_2 client_work_asks_2_k; simp only [Bool.apply_cond k, id]

/-! (*tenancy/client.work).reads -/
@[reducible] def client_work_reads_k {α : Type} (k0 : Tclient_work → Option α) (k1 : Tclient_work → Option α) (k2 : (Tclient_told × Tclient_work) → Option α) (k3 : (Tclient_told × Tclient_work) → Option α) (n : Int) (w : Tclient_work) : Option α :=
  ((client_work_file_2 n (Tclient_work.mk w.Client []))).bind fun r_1 =>
  alt r_1 (fun a_2 =>
    ((w.Client.Files[a_2]?)).bind fun y_3 =>
    bif ((cache_Valid y_3 w.Client.Now) != 0) then (((w.Client.Files[a_2]?)).bind fun y_4 =>
      ((cache_View n_ y_4)).bind fun r_5 =>
      k2 ((Tclient_told.mk (TAns.mk 0 0 r_5)), (Tclient_work.mk (TClient.mk w.Client.ID w.Client.Now w.Client.Epoch w.Client.Seq w.Client.Files w.Client.Names w.Client.Out w.Client.Bad (wi64 (w.Client.Hits + 1)) w.Client.Asks) [])))
    else ((client_work_free_2 (Tclient_work.mk w.Client []))).bind fun r_6 =>
      alt r_6 (fun a_7 =>
        k0 (client_work_asks_2 (TAsk.mk 2 0 0 0 [] n 1 []) (Tclient_work.mk w.Client []))) (fun b_8 =>
        k2 (b_8, (Tclient_work.mk w.Client [])))) (fun b_9 =>
    bif ((cache_Valid (TCache.mk 0 0 0 [] [] 0 false false) w.Client.Now) != 0) then (((cache_View n_ (TCache.mk 0 0 0 [] [] 0 false false))).bind fun r_10 =>
      k3 ((Tclient_told.mk (TAns.mk 0 0 r_10)), (Tclient_work.mk (TClient.mk w.Client.ID w.Client.Now w.Client.Epoch w.Client.Seq w.Client.Files w.Client.Names w.Client.Out w.Client.Bad (wi64 (w.Client.Hits + 1)) w.Client.Asks) [])))
    else ((client_work_free_2 (Tclient_work.mk w.Client []))).bind fun r_11 =>
      alt r_11 (fun a_12 =>
        k1 (client_work_asks_2 (TAsk.mk 2 0 0 0 [] n 1 []) (Tclient_work.mk w.Client []))) (fun b_13 =>
        k3 (b_13, (Tclient_work.mk w.Client []))))
def client_work_reads (n : Int) (w : Tclient_work) : Option (Tclient_work ⊕ (Tclient_work ⊕ ((Tclient_told × Tclient_work) ⊕ (Tclient_told × Tclient_work)))) := client_work_reads_k n_ (fun x => some (.inl x)) (fun x => some (.inr (.inl x))) (fun x => some (.inr (.inr (.inl x)))) (fun x => some (.inr (.inr (.inr x)))) n w
theorem client_work_reads_bind {α : Type} (k0 : Tclient_work → Option α) (k1 : Tclient_work → Option α) (k2 : (Tclient_told × Tclient_work) → Option α) (k3 : (Tclient_told × Tclient_work) → Option α) (n : Int) (w : Tclient_work) : client_work_reads_k n_ k0 k1 k2 k3 n w = (client_work_reads n_ n w).bind (fun s0_ => alt s0_ k0 (fun s1_ => alt s1_ k1 (fun s2_ => alt s2_ k2 k3))) := by
  unfold client_work_reads client_work_reads_k; simp only [bind_cond, Option.bind_assoc, alt_bind, Option.bind_some, Option.bind_none, alt_inl, alt_inr]

/-! tenancy/cache.twin -/
@[reducible] def cache_twin_2_k {α : Type} (k : Unit → α) (c : TCache) : α :=
  k ()
def cache_twin_2 (c : TCache) : Unit := cache_twin_2_k id c
theorem cache_twin_2_bind {α : Type} (k : Unit → α) (c : TCache) : cache_twin_2_k k c = k (cache_twin_2 c) := by
  unfold cache_twin_2 cache_twin_2_k; simp only [Bool.apply_cond k, id]

/-! tenancy/cache.Buffer -/
@[reducible] def cache_Buffer_k {α : Type} (k0 : (TCache × Bool) → Option α) (c : TCache) (w : TWrite) : Option α :=
  bif (decide ((c.Dirty.length : Int) ≥ 5)) then k0 (c, false)
  else bif (c.Mode != 2) then k0 (c, false)
    else bif (!(file_May w)) then k0 (c, false)
      else bif (decide ((c.Dirty.length + 1) ≤ lim)) then k0 ((TCache.mk c.Mode c.Until c.Ver c.Body (c.Dirty ++ [w]) c.Sent c.Called c.Lost), true)
        else none
def cache_Buffer (c : TCache) (w : TWrite) : Option (TCache × Bool) := cache_Buffer_k (fun x => some x) c w
theorem cache_Buffer_bind {α : Type} (k0 : (TCache × Bool) → Option α) (c : TCache) (w : TWrite) : cache_Buffer_k k0 c w = (cache_Buffer c w).bind k0 := by
  unfold cache_Buffer cache_Buffer_k; simp only [bind_cond, Option.bind_assoc, alt_bind, Option.bind_some, Option.bind_none, alt_inl, alt_inr]

/-! (*tenancy/client.work).gives -/
@[reducible] def client_work_gives_k {α : Type} (k0 : Tclient_work → Option α) (k1 : Tclient_work → Option α) (n : Int) (w : Tclient_work) : Option α :=
  ((client_work_file_2 n (Tclient_work.mk w.Client []))).bind fun r_1 =>
  alt r_1 (fun a_2 =>
    ((w.Client.Files[a_2]?)).bind fun y_3 =>
    (((client_work_asks_2 (TAsk.mk 4 0 0 0 [] n 0 y_3.Dirty) (Tclient_work.mk w.Client [])).Client.Files[a_2]?)).bind fun y_4 =>
    (((client_work_asks_2 (TAsk.mk 4 0 0 0 [] n 0 y_3.Dirty) (Tclient_work.mk w.Client [])).Client.Files[a_2]?)).bind fun y_5 =>
    (((client_work_asks_2 (TAsk.mk 4 0 0 0 [] n 0 y_3.Dirty) (Tclient_work.mk w.Client [])).Client.Files[a_2]?)).bind fun y_6 =>
    ((((client_work_asks_2 (TAsk.mk 4 0 0 0 [] n 0 y_3.Dirty) (Tclient_work.mk w.Client [])).Client.Files.set a_2 (cache_Reset y_5))[a_2]?)).bind fun y_7 =>
    k0 (Tclient_work.mk (TClient.mk (client_work_asks_2 (TAsk.mk 4 0 0 0 [] n 0 y_3.Dirty) (Tclient_work.mk w.Client [])).Client.ID (client_work_asks_2 (TAsk.mk 4 0 0 0 [] n 0 y_3.Dirty) (Tclient_work.mk w.Client [])).Client.Now (client_work_asks_2 (TAsk.mk 4 0 0 0 [] n 0 y_3.Dirty) (Tclient_work.mk w.Client [])).Client.Epoch (client_work_asks_2 (TAsk.mk 4 0 0 0 [] n 0 y_3.Dirty) (Tclient_work.mk w.Client [])).Client.Seq (((client_work_asks_2 (TAsk.mk 4 0 0 0 [] n 0 y_3.Dirty) (Tclient_work.mk w.Client [])).Client.Files.set a_2 (cache_Reset y_5)).set a_2 (TCache.mk y_7.Mode y_7.Until y_7.Ver y_7.Body y_7.Dirty y_7.Sent y_7.Called y_4.Lost)) (client_work_asks_2 (TAsk.mk 4 0 0 0 [] n 0 y_3.Dirty) (Tclient_work.mk w.Client [])).Client.Names (client_work_asks_2 (TAsk.mk 4 0 0 0 [] n 0 y_3.Dirty) (Tclient_work.mk w.Client [])).Client.Out (client_work_asks_2 (TAsk.mk 4 0 0 0 [] n 0 y_3.Dirty) (Tclient_work.mk w.Client [])).Client.Bad (client_work_asks_2 (TAsk.mk 4 0 0 0 [] n 0 y_3.Dirty) (Tclient_work.mk w.Client [])).Client.Hits (client_work_asks_2 (TAsk.mk 4 0 0 0 [] n 0 y_3.Dirty) (Tclient_work.mk w.Client [])).Client.Asks) (client_work_asks_2 (TAsk.mk 4 0 0 0 [] n 0 y_3.Dirty) (Tclient_work.mk w.Client [])).asked)) (fun b_8 =>
    k1 (client_work_asks_2 (TAsk.mk 4 0 0 0 [] n 0 []) (Tclient_work.mk w.Client [])))
def client_work_gives (n : Int) (w : Tclient_work) : Option (Tclient_work ⊕ Tclient_work) := client_work_gives_k (fun x => some (.inl x)) (fun x => some (.inr x)) n w
theorem client_work_gives_bind {α : Type} (k0 : Tclient_work → Option α) (k1 : Tclient_work → Option α) (n : Int) (w : Tclient_work) : client_work_gives_k k0 k1 n w = (client_work_gives n w).bind (fun s0_ => alt s0_ k0 k1) := by
  unfold client_work_gives client_work_gives_k; simp only [bind_cond, Option.bind_assoc, alt_bind, Option.bind_some, Option.bind_none, alt_inl, alt_inr]

/-! (*tenancy/client.work).flushes -/
@[reducible] def client_work_flushes_k {α : Type} (k0 : Tclient_work → Option α) (k1 : Tclient_work → Option α) (n : Int) (w : Tclient_work) : Option α :=
  ((client_work_file_2 n (Tclient_work.mk w.Client []))).bind fun r_1 =>
  alt r_1 (fun a_2 =>
    ((w.Client.Files[a_2]?)).bind fun y_3 =>
    ((w.Client.Files[a_2]?)).bind fun y_4 =>
    (((w.Client.Files.set a_2 (TCache.mk y_4.Mode y_4.Until y_4.Ver y_4.Body y_4.Dirty (y_3.Dirty.length : Int) y_4.Called y_4.Lost))[a_2]?)).bind fun y_5 =>
    k0 (client_work_asks_2 (TAsk.mk 3 0 0 0 [] n 0 y_5.Dirty) (Tclient_work.mk (TClient.mk w.Client.ID w.Client.Now w.Client.Epoch w.Client.Seq (w.Client.Files.set a_2 (TCache.mk y_4.Mode y_4.Until y_4.Ver y_4.Body y_4.Dirty (y_3.Dirty.length : Int) y_4.Called y_4.Lost)) w.Client.Names w.Client.Out w.Client.Bad w.Client.Hits w.Client.Asks) []))) (fun b_6 =>
    k1 (client_work_asks_2 (TAsk.mk 3 0 0 0 [] n 0 []) (Tclient_work.mk w.Client [])))
def client_work_flushes (n : Int) (w : Tclient_work) : Option (Tclient_work ⊕ Tclient_work) := client_work_flushes_k (fun x => some (.inl x)) (fun x => some (.inr x)) n w
theorem client_work_flushes_bind {α : Type} (k0 : Tclient_work → Option α) (k1 : Tclient_work → Option α) (n : Int) (w : Tclient_work) : client_work_flushes_k k0 k1 n w = (client_work_flushes n w).bind (fun s0_ => alt s0_ k0 k1) := by
  unfold client_work_flushes client_work_flushes_k; simp only [bind_cond, Option.bind_assoc, alt_bind, Option.bind_some, Option.bind_none, alt_inl, alt_inr]

/-! (*tenancy/client.work).writes -/
@[reducible] def client_work_writes_k {α : Type} (k0 : Tclient_work → Option α) (k1 : Tclient_work → Option α) (k2 : Tclient_work → Option α) (k3 : Tclient_work → Option α) (k4 : (Tclient_told × Tclient_work) → Option α) (k5 : (Tclient_told × Tclient_work) → Option α) (k6 : (Tclient_told × Tclient_work) → Option α) (n : Int) (x : TWrite) (w : Tclient_work) : Option α :=
  ((client_work_file_2 n (Tclient_work.mk w.Client []))).bind fun r_1 =>
  alt r_1 (fun a_2 =>
    ((w.Client.Files[a_2]?)).bind fun y_3 =>
    bif ((cache_Valid y_3 w.Client.Now) == 2) then (((w.Client.Files[a_2]?)).bind fun y_4 =>
      bif (!y_4.Called) then (((w.Client.Files[a_2]?)).bind fun y_5 =>
        ((cache_Buffer y_5 x)).bind fun r_6 =>
        bif r_6.2 then (((w.Client.Files[a_2]?)).bind fun y_7 =>
          k5 ((client_work_says_2 0 (Tclient_work.mk (TClient.mk w.Client.ID w.Client.Now w.Client.Epoch w.Client.Seq (w.Client.Files.set a_2 r_6.1) w.Client.Names w.Client.Out w.Client.Bad (wi64 (w.Client.Hits + 1)) w.Client.Asks) [])), (Tclient_work.mk (TClient.mk w.Client.ID w.Client.Now w.Client.Epoch w.Client.Seq (w.Client.Files.set a_2 r_6.1) w.Client.Names w.Client.Out w.Client.Bad (wi64 (w.Client.Hits + 1)) w.Client.Asks) [])))
        else ((client_work_free_2 (Tclient_work.mk w.Client []))).bind fun r_8 =>
          alt r_8 (fun a_9 =>
            bif (!((cache_Valid y_3 w.Client.Now) == 2)) then k1 (client_work_asks_2 (TAsk.mk 2 0 0 0 [] n 2 []) (Tclient_work.mk w.Client []))
            else ((w.Client.Files[a_2]?)).bind fun y_10 =>
              bif y_10.Called then (((client_work_gives n (Tclient_work.mk w.Client []))).bind fun r_11 =>
                alt r_11 (fun a_12 =>
                  k1 a_12) (fun b_13 =>
                  k2 b_13))
              else ((client_work_flushes n (Tclient_work.mk w.Client []))).bind fun r_14 =>
                alt r_14 (fun a_15 =>
                  k1 a_15) (fun b_16 =>
                  k2 b_16)) (fun b_17 =>
            k5 (b_17, (Tclient_work.mk w.Client []))))
      else ((client_work_free_2 (Tclient_work.mk w.Client []))).bind fun r_18 =>
        alt r_18 (fun a_19 =>
          bif (!((cache_Valid y_3 w.Client.Now) == 2)) then k0 (client_work_asks_2 (TAsk.mk 2 0 0 0 [] n 2 []) (Tclient_work.mk w.Client []))
          else ((w.Client.Files[a_2]?)).bind fun y_20 =>
            bif y_20.Called then (((client_work_gives n (Tclient_work.mk w.Client []))).bind fun r_21 =>
              alt r_21 (fun a_22 =>
                k0 a_22) (fun b_23 =>
                k1 b_23))
            else ((client_work_flushes n (Tclient_work.mk w.Client []))).bind fun r_24 =>
              alt r_24 (fun a_25 =>
                k0 a_25) (fun b_26 =>
                k1 b_26)) (fun b_27 =>
          k4 (b_27, (Tclient_work.mk w.Client []))))
    else ((client_work_free_2 (Tclient_work.mk w.Client []))).bind fun r_28 =>
      alt r_28 (fun a_29 =>
        bif (!((cache_Valid y_3 w.Client.Now) == 2)) then k0 (client_work_asks_2 (TAsk.mk 2 0 0 0 [] n 2 []) (Tclient_work.mk w.Client []))
        else ((w.Client.Files[a_2]?)).bind fun y_30 =>
          bif y_30.Called then (((client_work_gives n (Tclient_work.mk w.Client []))).bind fun r_31 =>
            alt r_31 (fun a_32 =>
              k0 a_32) (fun b_33 =>
              k1 b_33))
          else ((client_work_flushes n (Tclient_work.mk w.Client []))).bind fun r_34 =>
            alt r_34 (fun a_35 =>
              k0 a_35) (fun b_36 =>
              k1 b_36)) (fun b_37 =>
        k4 (b_37, (Tclient_work.mk w.Client [])))) (fun b_38 =>
    bif ((cache_Valid (TCache.mk 0 0 0 [] [] 0 false false) w.Client.Now) == 2) then (((cache_Buffer (TCache.mk 0 0 0 [] [] 0 false false) x)).bind fun r_39 =>
      bif r_39.2 then k6 ((client_work_says_2 0 (Tclient_work.mk (TClient.mk w.Client.ID w.Client.Now w.Client.Epoch w.Client.Seq w.Client.Files w.Client.Names w.Client.Out w.Client.Bad (wi64 (w.Client.Hits + 1)) w.Client.Asks) [])), (Tclient_work.mk (TClient.mk w.Client.ID w.Client.Now w.Client.Epoch w.Client.Seq w.Client.Files w.Client.Names w.Client.Out w.Client.Bad (wi64 (w.Client.Hits + 1)) w.Client.Asks) []))
      else ((client_work_free_2 (Tclient_work.mk w.Client []))).bind fun r_40 =>
        alt r_40 (fun a_41 =>
          bif (!((cache_Valid (TCache.mk 0 0 0 [] [] 0 false false) w.Client.Now) == 2)) then k2 (client_work_asks_2 (TAsk.mk 2 0 0 0 [] n 2 []) (Tclient_work.mk w.Client []))
          else ((client_work_flushes n (Tclient_work.mk w.Client []))).bind fun r_42 =>
            alt r_42 (fun a_43 =>
              k2 a_43) (fun b_44 =>
              k3 b_44)) (fun b_45 =>
          k6 (b_45, (Tclient_work.mk w.Client []))))
    else ((client_work_free_2 (Tclient_work.mk w.Client []))).bind fun r_46 =>
      alt r_46 (fun a_47 =>
        bif (!((cache_Valid (TCache.mk 0 0 0 [] [] 0 false false) w.Client.Now) == 2)) then k1 (client_work_asks_2 (TAsk.mk 2 0 0 0 [] n 2 []) (Tclient_work.mk w.Client []))
        else ((client_work_flushes n (Tclient_work.mk w.Client []))).bind fun r_48 =>
          alt r_48 (fun a_49 =>
            k1 a_49) (fun b_50 =>
            k2 b_50)) (fun b_51 =>
        k5 (b_51, (Tclient_work.mk w.Client []))))
def client_work_writes (n : Int) (x : TWrite) (w : Tclient_work) : Option (Tclient_work ⊕ (Tclient_work ⊕ (Tclient_work ⊕ (Tclient_work ⊕ ((Tclient_told × Tclient_work) ⊕ ((Tclient_told × Tclient_work) ⊕ (Tclient_told × Tclient_work))))))) := client_work_writes_k (fun x => some (.inl x)) (fun x => some (.inr (.inl x))) (fun x => some (.inr (.inr (.inl x)))) (fun x => some (.inr (.inr (.inr (.inl x))))) (fun x => some (.inr (.inr (.inr (.inr (.inl x)))))) (fun x => some (.inr (.inr (.inr (.inr (.inr (.inl x))))))) (fun x => some (.inr (.inr (.inr (.inr (.inr (.inr x))))))) n x w
theorem client_work_writes_bind {α : Type} (k0 : Tclient_work → Option α) (k1 : Tclient_work → Option α) (k2 : Tclient_work → Option α) (k3 : Tclient_work → Option α) (k4 : (Tclient_told × Tclient_work) → Option α) (k5 : (Tclient_told × Tclient_work) → Option α) (k6 : (Tclient_told × Tclient_work) → Option α) (n : Int) (x : TWrite) (w : Tclient_work) : client_work_writes_k k0 k1 k2 k3 k4 k5 k6 n x w = (client_work_writes n x w).bind (fun s0_ => alt s0_ k0 (fun s1_ => alt s1_ k1 (fun s2_ => alt s2_ k2 (fun s3_ => alt s3_ k3 (fun s4_ => alt s4_ k4 (fun s5_ => alt s5_ k5 k6)))))) := by
  unfold client_work_writes client_work_writes_k; simp only [bind_cond, Option.bind_assoc, alt_bind, Option.bind_some, Option.bind_none, alt_inl, alt_inr]

/-! (*tenancy/client.work).syncs -/
@[reducible] def client_work_syncs_k {α : Type} (k0 : Tclient_work → Option α) (k1 : Tclient_work → Option α) (k2 : (Tclient_told × Tclient_work) → Option α) (k3 : (Tclient_told × Tclient_work) → Option α) (n : Int) (w : Tclient_work) : Option α :=
  bif w.Client.Out.Is then (bif (w.Client.Out.Ask.Kind == 4) then (bif (w.Client.Out.Ask.File == n) then (bif (decide ((w.Client.Out.Ask.Writes.length : Int) > 0)) then k2 ((client_work_says_2 4 (Tclient_work.mk w.Client [])), (Tclient_work.mk w.Client []))
        else ((client_work_file_2 n (Tclient_work.mk w.Client []))).bind fun r_1 =>
          alt r_1 (fun a_2 =>
            ((w.Client.Files[a_2]?)).bind fun y_3 =>
            bif ((y_3.Dirty.length : Int) == 0) then k2 ((client_work_says_2 0 (Tclient_work.mk w.Client [])), (Tclient_work.mk w.Client []))
            else ((client_work_free_2 (Tclient_work.mk w.Client []))).bind fun r_4 =>
              alt r_4 (fun a_5 =>
                ((client_work_flushes n (Tclient_work.mk w.Client []))).bind fun r_6 =>
                alt r_6 (fun a_7 =>
                  k0 a_7) (fun b_8 =>
                  k1 b_8)) (fun b_9 =>
                k2 (b_9, (Tclient_work.mk w.Client [])))) (fun b_10 =>
            k3 ((client_work_says_2 0 (Tclient_work.mk w.Client [])), (Tclient_work.mk w.Client []))))
      else ((client_work_file_2 n (Tclient_work.mk w.Client []))).bind fun r_11 =>
        alt r_11 (fun a_12 =>
          ((w.Client.Files[a_12]?)).bind fun y_13 =>
          bif ((y_13.Dirty.length : Int) == 0) then k2 ((client_work_says_2 0 (Tclient_work.mk w.Client [])), (Tclient_work.mk w.Client []))
          else ((client_work_free_2 (Tclient_work.mk w.Client []))).bind fun r_14 =>
            alt r_14 (fun a_15 =>
              ((client_work_flushes n (Tclient_work.mk w.Client []))).bind fun r_16 =>
              alt r_16 (fun a_17 =>
                k0 a_17) (fun b_18 =>
                k1 b_18)) (fun b_19 =>
              k2 (b_19, (Tclient_work.mk w.Client [])))) (fun b_20 =>
          k3 ((client_work_says_2 0 (Tclient_work.mk w.Client [])), (Tclient_work.mk w.Client []))))
    else ((client_work_file_2 n (Tclient_work.mk w.Client []))).bind fun r_21 =>
      alt r_21 (fun a_22 =>
        ((w.Client.Files[a_22]?)).bind fun y_23 =>
        bif ((y_23.Dirty.length : Int) == 0) then k2 ((client_work_says_2 0 (Tclient_work.mk w.Client [])), (Tclient_work.mk w.Client []))
        else ((client_work_free_2 (Tclient_work.mk w.Client []))).bind fun r_24 =>
          alt r_24 (fun a_25 =>
            ((client_work_flushes n (Tclient_work.mk w.Client []))).bind fun r_26 =>
            alt r_26 (fun a_27 =>
              k0 a_27) (fun b_28 =>
              k1 b_28)) (fun b_29 =>
            k2 (b_29, (Tclient_work.mk w.Client [])))) (fun b_30 =>
        k3 ((client_work_says_2 0 (Tclient_work.mk w.Client [])), (Tclient_work.mk w.Client []))))
  else ((client_work_file_2 n (Tclient_work.mk w.Client []))).bind fun r_31 =>
    alt r_31 (fun a_32 =>
      ((w.Client.Files[a_32]?)).bind fun y_33 =>
      bif ((y_33.Dirty.length : Int) == 0) then k2 ((client_work_says_2 0 (Tclient_work.mk w.Client [])), (Tclient_work.mk w.Client []))
      else ((client_work_free_2 (Tclient_work.mk w.Client []))).bind fun r_34 =>
        alt r_34 (fun a_35 =>
          ((client_work_flushes n (Tclient_work.mk w.Client []))).bind fun r_36 =>
          alt r_36 (fun a_37 =>
            k0 a_37) (fun b_38 =>
            k1 b_38)) (fun b_39 =>
          k2 (b_39, (Tclient_work.mk w.Client [])))) (fun b_40 =>
      k3 ((client_work_says_2 0 (Tclient_work.mk w.Client [])), (Tclient_work.mk w.Client [])))
def client_work_syncs (n : Int) (w : Tclient_work) : Option (Tclient_work ⊕ (Tclient_work ⊕ ((Tclient_told × Tclient_work) ⊕ (Tclient_told × Tclient_work)))) := client_work_syncs_k (fun x => some (.inl x)) (fun x => some (.inr (.inl x))) (fun x => some (.inr (.inr (.inl x)))) (fun x => some (.inr (.inr (.inr x)))) n w
theorem client_work_syncs_bind {α : Type} (k0 : Tclient_work → Option α) (k1 : Tclient_work → Option α) (k2 : (Tclient_told × Tclient_work) → Option α) (k3 : (Tclient_told × Tclient_work) → Option α) (n : Int) (w : Tclient_work) : client_work_syncs_k k0 k1 k2 k3 n w = (client_work_syncs n w).bind (fun s0_ => alt s0_ k0 (fun s1_ => alt s1_ k1 (fun s2_ => alt s2_ k2 k3))) := by
  unfold client_work_syncs client_work_syncs_k; simp only [bind_cond, Option.bind_assoc, alt_bind, Option.bind_some, Option.bind_none, alt_inl, alt_inr]

/-! (*tenancy/client.work).drops -/
@[reducible] def client_work_drops_k {α : Type} (k0 : Tclient_work → Option α) (k1 : Tclient_work → Option α) (k2 : (Tclient_told × Tclient_work) → Option α) (k3 : (Tclient_told × Tclient_work) → Option α) (n : Int) (w : Tclient_work) : Option α :=
  ((client_work_file_2 n (Tclient_work.mk w.Client []))).bind fun r_1 =>
  alt r_1 (fun a_2 =>
    ((w.Client.Files[a_2]?)).bind fun y_3 =>
    bif (y_3.Mode == 0) then k2 ((client_work_says_2 0 (Tclient_work.mk w.Client [])), (Tclient_work.mk w.Client []))
    else ((client_work_free_2 (Tclient_work.mk w.Client []))).bind fun r_4 =>
      alt r_4 (fun a_5 =>
        ((client_work_gives n (Tclient_work.mk w.Client []))).bind fun r_6 =>
        alt r_6 (fun a_7 =>
          k0 a_7) (fun b_8 =>
          k1 b_8)) (fun b_9 =>
        k2 (b_9, (Tclient_work.mk w.Client [])))) (fun b_10 =>
    k3 ((client_work_says_2 0 (Tclient_work.mk w.Client [])), (Tclient_work.mk w.Client [])))
def client_work_drops (n : Int) (w : Tclient_work) : Option (Tclient_work ⊕ (Tclient_work ⊕ ((Tclient_told × Tclient_work) ⊕ (Tclient_told × Tclient_work)))) := client_work_drops_k (fun x => some (.inl x)) (fun x => some (.inr (.inl x))) (fun x => some (.inr (.inr (.inl x)))) (fun x => some (.inr (.inr (.inr x)))) n w
theorem client_work_drops_bind {α : Type} (k0 : Tclient_work → Option α) (k1 : Tclient_work → Option α) (k2 : (Tclient_told × Tclient_work) → Option α) (k3 : (Tclient_told × Tclient_work) → Option α) (n : Int) (w : Tclient_work) : client_work_drops_k k0 k1 k2 k3 n w = (client_work_drops n w).bind (fun s0_ => alt s0_ k0 (fun s1_ => alt s1_ k1 (fun s2_ => alt s2_ k2 k3))) := by
  unfold client_work_drops client_work_drops_k; simp only [bind_cond, Option.bind_assoc, alt_bind, Option.bind_some, Option.bind_none, alt_inl, alt_inr]

/-! (*tenancy/client.work).ends -/
@[reducible] def client_work_ends_k {α : Type} (k0 : Tclient_work → Option α) (k1 : Tclient_work → Option α) (k2 : (Tclient_told × Tclient_work) → Option α) (n : Int) (w : Tclient_work) : Option α :=
  ((client_work_free_2 (Tclient_work.mk w.Client []))).bind fun r_1 =>
  alt r_1 (fun a_2 =>
    ((client_work_file_2 n (Tclient_work.mk w.Client []))).bind fun r_3 =>
    alt r_3 (fun a_4 =>
      ((w.Client.Files[a_4]?)).bind fun y_5 =>
      bif (decide ((y_5.Dirty.length : Int) > 0)) then k2 ((client_work_says_2 4 (Tclient_work.mk w.Client [])), (Tclient_work.mk w.Client []))
      else (((client_work_asks_2 (TAsk.mk 5 0 0 0 [] n 0 []) (Tclient_work.mk w.Client [])).Client.Files[a_4]?)).bind fun y_6 =>
        (((client_work_asks_2 (TAsk.mk 5 0 0 0 [] n 0 []) (Tclient_work.mk w.Client [])).Client.Files[a_4]?)).bind fun y_7 =>
        k0 (Tclient_work.mk (TClient.mk (client_work_asks_2 (TAsk.mk 5 0 0 0 [] n 0 []) (Tclient_work.mk w.Client [])).Client.ID (client_work_asks_2 (TAsk.mk 5 0 0 0 [] n 0 []) (Tclient_work.mk w.Client [])).Client.Now (client_work_asks_2 (TAsk.mk 5 0 0 0 [] n 0 []) (Tclient_work.mk w.Client [])).Client.Epoch (client_work_asks_2 (TAsk.mk 5 0 0 0 [] n 0 []) (Tclient_work.mk w.Client [])).Client.Seq ((client_work_asks_2 (TAsk.mk 5 0 0 0 [] n 0 []) (Tclient_work.mk w.Client [])).Client.Files.set a_4 (cache_Reset y_6)) (client_work_asks_2 (TAsk.mk 5 0 0 0 [] n 0 []) (Tclient_work.mk w.Client [])).Client.Names (client_work_asks_2 (TAsk.mk 5 0 0 0 [] n 0 []) (Tclient_work.mk w.Client [])).Client.Out (client_work_asks_2 (TAsk.mk 5 0 0 0 [] n 0 []) (Tclient_work.mk w.Client [])).Client.Bad (client_work_asks_2 (TAsk.mk 5 0 0 0 [] n 0 []) (Tclient_work.mk w.Client [])).Client.Hits (client_work_asks_2 (TAsk.mk 5 0 0 0 [] n 0 []) (Tclient_work.mk w.Client [])).Client.Asks) (client_work_asks_2 (TAsk.mk 5 0 0 0 [] n 0 []) (Tclient_work.mk w.Client [])).asked)) (fun b_8 =>
      k1 (client_work_asks_2 (TAsk.mk 5 0 0 0 [] n 0 []) (Tclient_work.mk w.Client [])))) (fun b_9 =>
    k2 (b_9, (Tclient_work.mk w.Client [])))
def client_work_ends (n : Int) (w : Tclient_work) : Option (Tclient_work ⊕ (Tclient_work ⊕ (Tclient_told × Tclient_work))) := client_work_ends_k (fun x => some (.inl x)) (fun x => some (.inr (.inl x))) (fun x => some (.inr (.inr x))) n w
theorem client_work_ends_bind {α : Type} (k0 : Tclient_work → Option α) (k1 : Tclient_work → Option α) (k2 : (Tclient_told × Tclient_work) → Option α) (n : Int) (w : Tclient_work) : client_work_ends_k k0 k1 k2 n w = (client_work_ends n w).bind (fun s0_ => alt s0_ k0 (fun s1_ => alt s1_ k1 k2)) := by
  unfold client_work_ends client_work_ends_k; simp only [bind_cond, Option.bind_assoc, alt_bind, Option.bind_some, Option.bind_none, alt_inl, alt_inr]

/-! (*tenancy/client.work).reads -/
@[reducible] def client_work_reads_2_k {α : Type} (k0 : Tclient_work → Option α) (k1 : Tclient_work → Option α) (k2 : (Tclient_told × Tclient_work) → Option α) (k3 : (Tclient_told × Tclient_work) → Option α) (n : Int) (w : Tclient_work) : Option α :=
  ((client_work_file n (Tclient_work.mk w.Client []))).bind fun r_1 =>
  alt r_1 (fun a_2 =>
    ((w.Client.Files[a_2]?)).bind fun y_3 =>
    bif ((cache_Valid y_3 w.Client.Now) != 0) then (((w.Client.Files[a_2]?)).bind fun y_4 =>
      ((cache_View n_ y_4)).bind fun r_5 =>
      k2 ((Tclient_told.mk (TAns.mk 0 0 r_5)), (Tclient_work.mk (TClient.mk w.Client.ID w.Client.Now w.Client.Epoch w.Client.Seq w.Client.Files w.Client.Names w.Client.Out w.Client.Bad (wi64 (w.Client.Hits + 1)) w.Client.Asks) [])))
    else ((client_work_free_2 (Tclient_work.mk w.Client []))).bind fun r_6 =>
      alt r_6 (fun a_7 =>
        k0 (client_work_asks_2 (TAsk.mk 2 0 0 0 [] n 1 []) (Tclient_work.mk w.Client []))) (fun b_8 =>
        k2 (b_8, (Tclient_work.mk w.Client [])))) (fun b_9 =>
    bif ((cache_Valid (TCache.mk 0 0 0 [] [] 0 false false) w.Client.Now) != 0) then (((cache_View n_ (TCache.mk 0 0 0 [] [] 0 false false))).bind fun r_10 =>
      k3 ((Tclient_told.mk (TAns.mk 0 0 r_10)), (Tclient_work.mk (TClient.mk w.Client.ID w.Client.Now w.Client.Epoch w.Client.Seq w.Client.Files w.Client.Names w.Client.Out w.Client.Bad (wi64 (w.Client.Hits + 1)) w.Client.Asks) [])))
    else ((client_work_free (Tclient_work.mk w.Client []))).bind fun r_11 =>
      alt r_11 (fun a_12 =>
        k1 (client_work_asks (TAsk.mk 2 0 0 0 [] n 1 []) (Tclient_work.mk w.Client []))) (fun b_13 =>
        k3 (b_13, (Tclient_work.mk w.Client []))))
def client_work_reads_2 (n : Int) (w : Tclient_work) : Option (Tclient_work ⊕ (Tclient_work ⊕ ((Tclient_told × Tclient_work) ⊕ (Tclient_told × Tclient_work)))) := client_work_reads_2_k n_ (fun x => some (.inl x)) (fun x => some (.inr (.inl x))) (fun x => some (.inr (.inr (.inl x)))) (fun x => some (.inr (.inr (.inr x)))) n w
theorem client_work_reads_2_bind {α : Type} (k0 : Tclient_work → Option α) (k1 : Tclient_work → Option α) (k2 : (Tclient_told × Tclient_work) → Option α) (k3 : (Tclient_told × Tclient_work) → Option α) (n : Int) (w : Tclient_work) : client_work_reads_2_k n_ k0 k1 k2 k3 n w = (client_work_reads_2 n_ n w).bind (fun s0_ => alt s0_ k0 (fun s1_ => alt s1_ k1 (fun s2_ => alt s2_ k2 k3))) := by
  unfold client_work_reads_2 client_work_reads_2_k; simp only [bind_cond, Option.bind_assoc, alt_bind, Option.bind_some, Option.bind_none, alt_inl, alt_inr]

/-! (*tenancy/client.work).flushes -/
@[reducible] def client_work_flushes_2_k {α : Type} (k0 : Tclient_work → Option α) (k1 : Tclient_work → Option α) (n : Int) (w : Tclient_work) : Option α :=
  ((client_work_file n (Tclient_work.mk w.Client []))).bind fun r_1 =>
  alt r_1 (fun a_2 =>
    ((w.Client.Files[a_2]?)).bind fun y_3 =>
    ((w.Client.Files[a_2]?)).bind fun y_4 =>
    (((w.Client.Files.set a_2 (TCache.mk y_4.Mode y_4.Until y_4.Ver y_4.Body y_4.Dirty (y_3.Dirty.length : Int) y_4.Called y_4.Lost))[a_2]?)).bind fun y_5 =>
    k0 (client_work_asks_2 (TAsk.mk 3 0 0 0 [] n 0 y_5.Dirty) (Tclient_work.mk (TClient.mk w.Client.ID w.Client.Now w.Client.Epoch w.Client.Seq (w.Client.Files.set a_2 (TCache.mk y_4.Mode y_4.Until y_4.Ver y_4.Body y_4.Dirty (y_3.Dirty.length : Int) y_4.Called y_4.Lost)) w.Client.Names w.Client.Out w.Client.Bad w.Client.Hits w.Client.Asks) []))) (fun b_6 =>
    k1 (client_work_asks (TAsk.mk 3 0 0 0 [] n 0 []) (Tclient_work.mk w.Client [])))
def client_work_flushes_2 (n : Int) (w : Tclient_work) : Option (Tclient_work ⊕ Tclient_work) := client_work_flushes_2_k (fun x => some (.inl x)) (fun x => some (.inr x)) n w
theorem client_work_flushes_2_bind {α : Type} (k0 : Tclient_work → Option α) (k1 : Tclient_work → Option α) (n : Int) (w : Tclient_work) : client_work_flushes_2_k k0 k1 n w = (client_work_flushes_2 n w).bind (fun s0_ => alt s0_ k0 k1) := by
  unfold client_work_flushes_2 client_work_flushes_2_k; simp only [bind_cond, Option.bind_assoc, alt_bind, Option.bind_some, Option.bind_none, alt_inl, alt_inr]

/-! (*tenancy/client.work).writes -/
@[reducible] def client_work_writes_2_k {α : Type} (k0 : Tclient_work → Option α) (k1 : Tclient_work → Option α) (k2 : Tclient_work → Option α) (k3 : Tclient_work → Option α) (k4 : (Tclient_told × Tclient_work) → Option α) (k5 : (Tclient_told × Tclient_work) → Option α) (k6 : (Tclient_told × Tclient_work) → Option α) (n : Int) (x : TWrite) (w : Tclient_work) : Option α :=
  ((client_work_file n (Tclient_work.mk w.Client []))).bind fun r_1 =>
  alt r_1 (fun a_2 =>
    ((w.Client.Files[a_2]?)).bind fun y_3 =>
    bif ((cache_Valid y_3 w.Client.Now) == 2) then (((w.Client.Files[a_2]?)).bind fun y_4 =>
      bif (!y_4.Called) then (((w.Client.Files[a_2]?)).bind fun y_5 =>
        ((cache_Buffer y_5 x)).bind fun r_6 =>
        bif r_6.2 then (((w.Client.Files[a_2]?)).bind fun y_7 =>
          k5 ((client_work_says_2 0 (Tclient_work.mk (TClient.mk w.Client.ID w.Client.Now w.Client.Epoch w.Client.Seq (w.Client.Files.set a_2 r_6.1) w.Client.Names w.Client.Out w.Client.Bad (wi64 (w.Client.Hits + 1)) w.Client.Asks) [])), (Tclient_work.mk (TClient.mk w.Client.ID w.Client.Now w.Client.Epoch w.Client.Seq (w.Client.Files.set a_2 r_6.1) w.Client.Names w.Client.Out w.Client.Bad (wi64 (w.Client.Hits + 1)) w.Client.Asks) [])))
        else ((client_work_free_2 (Tclient_work.mk w.Client []))).bind fun r_8 =>
          alt r_8 (fun a_9 =>
            bif (!((cache_Valid y_3 w.Client.Now) == 2)) then k1 (client_work_asks_2 (TAsk.mk 2 0 0 0 [] n 2 []) (Tclient_work.mk w.Client []))
            else ((w.Client.Files[a_2]?)).bind fun y_10 =>
              bif y_10.Called then (((client_work_gives n (Tclient_work.mk w.Client []))).bind fun r_11 =>
                alt r_11 (fun a_12 =>
                  k1 a_12) (fun b_13 =>
                  k2 b_13))
              else ((client_work_flushes n (Tclient_work.mk w.Client []))).bind fun r_14 =>
                alt r_14 (fun a_15 =>
                  k1 a_15) (fun b_16 =>
                  k2 b_16)) (fun b_17 =>
            k5 (b_17, (Tclient_work.mk w.Client []))))
      else ((client_work_free_2 (Tclient_work.mk w.Client []))).bind fun r_18 =>
        alt r_18 (fun a_19 =>
          bif (!((cache_Valid y_3 w.Client.Now) == 2)) then k0 (client_work_asks_2 (TAsk.mk 2 0 0 0 [] n 2 []) (Tclient_work.mk w.Client []))
          else ((w.Client.Files[a_2]?)).bind fun y_20 =>
            bif y_20.Called then (((client_work_gives n (Tclient_work.mk w.Client []))).bind fun r_21 =>
              alt r_21 (fun a_22 =>
                k0 a_22) (fun b_23 =>
                k1 b_23))
            else ((client_work_flushes n (Tclient_work.mk w.Client []))).bind fun r_24 =>
              alt r_24 (fun a_25 =>
                k0 a_25) (fun b_26 =>
                k1 b_26)) (fun b_27 =>
          k4 (b_27, (Tclient_work.mk w.Client []))))
    else ((client_work_free_2 (Tclient_work.mk w.Client []))).bind fun r_28 =>
      alt r_28 (fun a_29 =>
        bif (!((cache_Valid y_3 w.Client.Now) == 2)) then k0 (client_work_asks_2 (TAsk.mk 2 0 0 0 [] n 2 []) (Tclient_work.mk w.Client []))
        else ((w.Client.Files[a_2]?)).bind fun y_30 =>
          bif y_30.Called then (((client_work_gives n (Tclient_work.mk w.Client []))).bind fun r_31 =>
            alt r_31 (fun a_32 =>
              k0 a_32) (fun b_33 =>
              k1 b_33))
          else ((client_work_flushes n (Tclient_work.mk w.Client []))).bind fun r_34 =>
            alt r_34 (fun a_35 =>
              k0 a_35) (fun b_36 =>
              k1 b_36)) (fun b_37 =>
        k4 (b_37, (Tclient_work.mk w.Client [])))) (fun b_38 =>
    bif ((cache_Valid (TCache.mk 0 0 0 [] [] 0 false false) w.Client.Now) == 2) then (((cache_Buffer (TCache.mk 0 0 0 [] [] 0 false false) x)).bind fun r_39 =>
      bif r_39.2 then k6 ((client_work_says 0 (Tclient_work.mk (TClient.mk w.Client.ID w.Client.Now w.Client.Epoch w.Client.Seq w.Client.Files w.Client.Names w.Client.Out w.Client.Bad (wi64 (w.Client.Hits + 1)) w.Client.Asks) [])), (Tclient_work.mk (TClient.mk w.Client.ID w.Client.Now w.Client.Epoch w.Client.Seq w.Client.Files w.Client.Names w.Client.Out w.Client.Bad (wi64 (w.Client.Hits + 1)) w.Client.Asks) []))
      else ((client_work_free (Tclient_work.mk w.Client []))).bind fun r_40 =>
        alt r_40 (fun a_41 =>
          bif (!((cache_Valid (TCache.mk 0 0 0 [] [] 0 false false) w.Client.Now) == 2)) then k2 (client_work_asks (TAsk.mk 2 0 0 0 [] n 2 []) (Tclient_work.mk w.Client []))
          else ((client_work_flushes_2 n (Tclient_work.mk w.Client []))).bind fun r_42 =>
            alt r_42 (fun a_43 =>
              k2 a_43) (fun b_44 =>
              k3 b_44)) (fun b_45 =>
          k6 (b_45, (Tclient_work.mk w.Client []))))
    else ((client_work_free (Tclient_work.mk w.Client []))).bind fun r_46 =>
      alt r_46 (fun a_47 =>
        bif (!((cache_Valid (TCache.mk 0 0 0 [] [] 0 false false) w.Client.Now) == 2)) then k1 (client_work_asks (TAsk.mk 2 0 0 0 [] n 2 []) (Tclient_work.mk w.Client []))
        else ((client_work_flushes_2 n (Tclient_work.mk w.Client []))).bind fun r_48 =>
          alt r_48 (fun a_49 =>
            k1 a_49) (fun b_50 =>
            k2 b_50)) (fun b_51 =>
        k5 (b_51, (Tclient_work.mk w.Client []))))
def client_work_writes_2 (n : Int) (x : TWrite) (w : Tclient_work) : Option (Tclient_work ⊕ (Tclient_work ⊕ (Tclient_work ⊕ (Tclient_work ⊕ ((Tclient_told × Tclient_work) ⊕ ((Tclient_told × Tclient_work) ⊕ (Tclient_told × Tclient_work))))))) := client_work_writes_2_k (fun x => some (.inl x)) (fun x => some (.inr (.inl x))) (fun x => some (.inr (.inr (.inl x)))) (fun x => some (.inr (.inr (.inr (.inl x))))) (fun x => some (.inr (.inr (.inr (.inr (.inl x)))))) (fun x => some (.inr (.inr (.inr (.inr (.inr (.inl x))))))) (fun x => some (.inr (.inr (.inr (.inr (.inr (.inr x))))))) n x w
theorem client_work_writes_2_bind {α : Type} (k0 : Tclient_work → Option α) (k1 : Tclient_work → Option α) (k2 : Tclient_work → Option α) (k3 : Tclient_work → Option α) (k4 : (Tclient_told × Tclient_work) → Option α) (k5 : (Tclient_told × Tclient_work) → Option α) (k6 : (Tclient_told × Tclient_work) → Option α) (n : Int) (x : TWrite) (w : Tclient_work) : client_work_writes_2_k k0 k1 k2 k3 k4 k5 k6 n x w = (client_work_writes_2 n x w).bind (fun s0_ => alt s0_ k0 (fun s1_ => alt s1_ k1 (fun s2_ => alt s2_ k2 (fun s3_ => alt s3_ k3 (fun s4_ => alt s4_ k4 (fun s5_ => alt s5_ k5 k6)))))) := by
  unfold client_work_writes_2 client_work_writes_2_k; simp only [bind_cond, Option.bind_assoc, alt_bind, Option.bind_some, Option.bind_none, alt_inl, alt_inr]

/-! (*tenancy/client.work).syncs -/
@[reducible] def client_work_syncs_2_k {α : Type} (k0 : Tclient_work → Option α) (k1 : Tclient_work → Option α) (k2 : (Tclient_told × Tclient_work) → Option α) (k3 : (Tclient_told × Tclient_work) → Option α) (n : Int) (w : Tclient_work) : Option α :=
  bif w.Client.Out.Is then (bif (w.Client.Out.Ask.Kind == 4) then (bif (w.Client.Out.Ask.File == n) then (bif (decide ((w.Client.Out.Ask.Writes.length : Int) > 0)) then k2 ((client_work_says 4 (Tclient_work.mk w.Client [])), (Tclient_work.mk w.Client []))
        else ((client_work_file n (Tclient_work.mk w.Client []))).bind fun r_1 =>
          alt r_1 (fun a_2 =>
            ((w.Client.Files[a_2]?)).bind fun y_3 =>
            bif ((y_3.Dirty.length : Int) == 0) then k2 ((client_work_says_2 0 (Tclient_work.mk w.Client [])), (Tclient_work.mk w.Client []))
            else ((client_work_free_2 (Tclient_work.mk w.Client []))).bind fun r_4 =>
              alt r_4 (fun a_5 =>
                ((client_work_flushes n (Tclient_work.mk w.Client []))).bind fun r_6 =>
                alt r_6 (fun a_7 =>
                  k0 a_7) (fun b_8 =>
                  k1 b_8)) (fun b_9 =>
                k2 (b_9, (Tclient_work.mk w.Client [])))) (fun b_10 =>
            k3 ((client_work_says 0 (Tclient_work.mk w.Client [])), (Tclient_work.mk w.Client []))))
      else ((client_work_file n (Tclient_work.mk w.Client []))).bind fun r_11 =>
        alt r_11 (fun a_12 =>
          ((w.Client.Files[a_12]?)).bind fun y_13 =>
          bif ((y_13.Dirty.length : Int) == 0) then k2 ((client_work_says_2 0 (Tclient_work.mk w.Client [])), (Tclient_work.mk w.Client []))
          else ((client_work_free_2 (Tclient_work.mk w.Client []))).bind fun r_14 =>
            alt r_14 (fun a_15 =>
              ((client_work_flushes n (Tclient_work.mk w.Client []))).bind fun r_16 =>
              alt r_16 (fun a_17 =>
                k0 a_17) (fun b_18 =>
                k1 b_18)) (fun b_19 =>
              k2 (b_19, (Tclient_work.mk w.Client [])))) (fun b_20 =>
          k3 ((client_work_says 0 (Tclient_work.mk w.Client [])), (Tclient_work.mk w.Client []))))
    else ((client_work_file n (Tclient_work.mk w.Client []))).bind fun r_21 =>
      alt r_21 (fun a_22 =>
        ((w.Client.Files[a_22]?)).bind fun y_23 =>
        bif ((y_23.Dirty.length : Int) == 0) then k2 ((client_work_says_2 0 (Tclient_work.mk w.Client [])), (Tclient_work.mk w.Client []))
        else ((client_work_free_2 (Tclient_work.mk w.Client []))).bind fun r_24 =>
          alt r_24 (fun a_25 =>
            ((client_work_flushes n (Tclient_work.mk w.Client []))).bind fun r_26 =>
            alt r_26 (fun a_27 =>
              k0 a_27) (fun b_28 =>
              k1 b_28)) (fun b_29 =>
            k2 (b_29, (Tclient_work.mk w.Client [])))) (fun b_30 =>
        k3 ((client_work_says 0 (Tclient_work.mk w.Client [])), (Tclient_work.mk w.Client []))))
  else ((client_work_file n (Tclient_work.mk w.Client []))).bind fun r_31 =>
    alt r_31 (fun a_32 =>
      ((w.Client.Files[a_32]?)).bind fun y_33 =>
      bif ((y_33.Dirty.length : Int) == 0) then k2 ((client_work_says_2 0 (Tclient_work.mk w.Client [])), (Tclient_work.mk w.Client []))
      else ((client_work_free_2 (Tclient_work.mk w.Client []))).bind fun r_34 =>
        alt r_34 (fun a_35 =>
          ((client_work_flushes n (Tclient_work.mk w.Client []))).bind fun r_36 =>
          alt r_36 (fun a_37 =>
            k0 a_37) (fun b_38 =>
            k1 b_38)) (fun b_39 =>
          k2 (b_39, (Tclient_work.mk w.Client [])))) (fun b_40 =>
      k3 ((client_work_says 0 (Tclient_work.mk w.Client [])), (Tclient_work.mk w.Client [])))
def client_work_syncs_2 (n : Int) (w : Tclient_work) : Option (Tclient_work ⊕ (Tclient_work ⊕ ((Tclient_told × Tclient_work) ⊕ (Tclient_told × Tclient_work)))) := client_work_syncs_2_k (fun x => some (.inl x)) (fun x => some (.inr (.inl x))) (fun x => some (.inr (.inr (.inl x)))) (fun x => some (.inr (.inr (.inr x)))) n w
theorem client_work_syncs_2_bind {α : Type} (k0 : Tclient_work → Option α) (k1 : Tclient_work → Option α) (k2 : (Tclient_told × Tclient_work) → Option α) (k3 : (Tclient_told × Tclient_work) → Option α) (n : Int) (w : Tclient_work) : client_work_syncs_2_k k0 k1 k2 k3 n w = (client_work_syncs_2 n w).bind (fun s0_ => alt s0_ k0 (fun s1_ => alt s1_ k1 (fun s2_ => alt s2_ k2 k3))) := by
  unfold client_work_syncs_2 client_work_syncs_2_k; simp only [bind_cond, Option.bind_assoc, alt_bind, Option.bind_some, Option.bind_none, alt_inl, alt_inr]

/-! (*tenancy/client.work).drops -/
@[reducible] def client_work_drops_2_k {α : Type} (k0 : Tclient_work → Option α) (k1 : Tclient_work → Option α) (k2 : (Tclient_told × Tclient_work) → Option α) (k3 : (Tclient_told × Tclient_work) → Option α) (n : Int) (w : Tclient_work) : Option α :=
  ((client_work_file n (Tclient_work.mk w.Client []))).bind fun r_1 =>
  alt r_1 (fun a_2 =>
    ((w.Client.Files[a_2]?)).bind fun y_3 =>
    bif (y_3.Mode == 0) then k2 ((client_work_says_2 0 (Tclient_work.mk w.Client [])), (Tclient_work.mk w.Client []))
    else ((client_work_free_2 (Tclient_work.mk w.Client []))).bind fun r_4 =>
      alt r_4 (fun a_5 =>
        ((client_work_gives n (Tclient_work.mk w.Client []))).bind fun r_6 =>
        alt r_6 (fun a_7 =>
          k0 a_7) (fun b_8 =>
          k1 b_8)) (fun b_9 =>
        k2 (b_9, (Tclient_work.mk w.Client [])))) (fun b_10 =>
    k3 ((client_work_says 0 (Tclient_work.mk w.Client [])), (Tclient_work.mk w.Client [])))
def client_work_drops_2 (n : Int) (w : Tclient_work) : Option (Tclient_work ⊕ (Tclient_work ⊕ ((Tclient_told × Tclient_work) ⊕ (Tclient_told × Tclient_work)))) := client_work_drops_2_k (fun x => some (.inl x)) (fun x => some (.inr (.inl x))) (fun x => some (.inr (.inr (.inl x)))) (fun x => some (.inr (.inr (.inr x)))) n w
theorem client_work_drops_2_bind {α : Type} (k0 : Tclient_work → Option α) (k1 : Tclient_work → Option α) (k2 : (Tclient_told × Tclient_work) → Option α) (k3 : (Tclient_told × Tclient_work) → Option α) (n : Int) (w : Tclient_work) : client_work_drops_2_k k0 k1 k2 k3 n w = (client_work_drops_2 n w).bind (fun s0_ => alt s0_ k0 (fun s1_ => alt s1_ k1 (fun s2_ => alt s2_ k2 k3))) := by
  unfold client_work_drops_2 client_work_drops_2_k; simp only [bind_cond, Option.bind_assoc, alt_bind, Option.bind_some, Option.bind_none, alt_inl, alt_inr]

/-! (*tenancy/client.work).ends -/
@[reducible] def client_work_ends_2_k {α : Type} (k0 : Tclient_work → Option α) (k1 : Tclient_work → Option α) (k2 : (Tclient_told × Tclient_work) → Option α) (n : Int) (w : Tclient_work) : Option α :=
  ((client_work_free (Tclient_work.mk w.Client []))).bind fun r_1 =>
  alt r_1 (fun a_2 =>
    ((client_work_file n (Tclient_work.mk w.Client []))).bind fun r_3 =>
    alt r_3 (fun a_4 =>
      ((w.Client.Files[a_4]?)).bind fun y_5 =>
      bif (decide ((y_5.Dirty.length : Int) > 0)) then k2 ((client_work_says_2 4 (Tclient_work.mk w.Client [])), (Tclient_work.mk w.Client []))
      else (((client_work_asks_2 (TAsk.mk 5 0 0 0 [] n 0 []) (Tclient_work.mk w.Client [])).Client.Files[a_4]?)).bind fun y_6 =>
        (((client_work_asks_2 (TAsk.mk 5 0 0 0 [] n 0 []) (Tclient_work.mk w.Client [])).Client.Files[a_4]?)).bind fun y_7 =>
        k0 (Tclient_work.mk (TClient.mk (client_work_asks_2 (TAsk.mk 5 0 0 0 [] n 0 []) (Tclient_work.mk w.Client [])).Client.ID (client_work_asks_2 (TAsk.mk 5 0 0 0 [] n 0 []) (Tclient_work.mk w.Client [])).Client.Now (client_work_asks_2 (TAsk.mk 5 0 0 0 [] n 0 []) (Tclient_work.mk w.Client [])).Client.Epoch (client_work_asks_2 (TAsk.mk 5 0 0 0 [] n 0 []) (Tclient_work.mk w.Client [])).Client.Seq ((client_work_asks_2 (TAsk.mk 5 0 0 0 [] n 0 []) (Tclient_work.mk w.Client [])).Client.Files.set a_4 (cache_Reset y_6)) (client_work_asks_2 (TAsk.mk 5 0 0 0 [] n 0 []) (Tclient_work.mk w.Client [])).Client.Names (client_work_asks_2 (TAsk.mk 5 0 0 0 [] n 0 []) (Tclient_work.mk w.Client [])).Client.Out (client_work_asks_2 (TAsk.mk 5 0 0 0 [] n 0 []) (Tclient_work.mk w.Client [])).Client.Bad (client_work_asks_2 (TAsk.mk 5 0 0 0 [] n 0 []) (Tclient_work.mk w.Client [])).Client.Hits (client_work_asks_2 (TAsk.mk 5 0 0 0 [] n 0 []) (Tclient_work.mk w.Client [])).Client.Asks) (client_work_asks_2 (TAsk.mk 5 0 0 0 [] n 0 []) (Tclient_work.mk w.Client [])).asked)) (fun b_8 =>
      k1 (client_work_asks (TAsk.mk 5 0 0 0 [] n 0 []) (Tclient_work.mk w.Client [])))) (fun b_9 =>
    k2 (b_9, (Tclient_work.mk w.Client [])))
def client_work_ends_2 (n : Int) (w : Tclient_work) : Option (Tclient_work ⊕ (Tclient_work ⊕ (Tclient_told × Tclient_work))) := client_work_ends_2_k (fun x => some (.inl x)) (fun x => some (.inr (.inl x))) (fun x => some (.inr (.inr x))) n w
theorem client_work_ends_2_bind {α : Type} (k0 : Tclient_work → Option α) (k1 : Tclient_work → Option α) (k2 : (Tclient_told × Tclient_work) → Option α) (n : Int) (w : Tclient_work) : client_work_ends_2_k k0 k1 k2 n w = (client_work_ends_2 n w).bind (fun s0_ => alt s0_ k0 (fun s1_ => alt s1_ k1 k2)) := by
  unfold client_work_ends_2 client_work_ends_2_k; simp only [bind_cond, Option.bind_assoc, alt_bind, Option.bind_some, Option.bind_none, alt_inl, alt_inr]

/-! (*tenancy/client.work).step -/
@[reducible] def client_work_step_k {α : Type} (k0 : Tclient_work → Option α) (k1 : Tclient_work → Option α) (k2 : Tclient_work → Option α) (k3 : Tclient_work → Option α) (k4 : Tclient_work → Option α) (k5 : Tclient_work → Option α) (k6 : Tclient_work → Option α) (k7 : Tclient_work → Option α) (k8 : Tclient_work → Option α) (k9 : (Tclient_told × Tclient_work) → Option α) (k10 : (Tclient_told × Tclient_work) → Option α) (k11 : (Tclient_told × Tclient_work) → Option α) (k12 : (Tclient_told × Tclient_work) → Option α) (k13 : (Tclient_told × Tclient_work) → Option α) (k14 : (Tclient_told × Tclient_work) → Option α) (s : TStep) (w : Tclient_work) : Option α :=
  bif (decide (s.Kind < 3)) then k9 ((client_work_says 1 (Tclient_work.mk w.Client [])), (Tclient_work.mk w.Client []))
  else bif (decide (s.Kind > 8)) then k9 ((client_work_says 1 (Tclient_work.mk w.Client [])), (Tclient_work.mk w.Client []))
    else bif (s.Kind == 3) then (((client_work_opens n_ s.Text (Tclient_work.mk w.Client []))).bind fun r_1 =>
        alt r_1 (fun a_2 =>
          k4 a_2) (fun b_3 =>
          k9 (b_3.1, (Tclient_work.mk b_3.2.Client []))))
      else bif (decide (s.File < 1)) then k10 ((client_work_says 1 (Tclient_work.mk w.Client [])), (Tclient_work.mk w.Client []))
        else bif (decide (s.File > (w.Client.Files.length : Int))) then k10 ((client_work_says 1 (Tclient_work.mk w.Client [])), (Tclient_work.mk w.Client []))
          else bif (s.Kind == 5) then (bif (!(file_May (TWrite.mk s.Off s.Text))) then k10 ((client_work_says 1 (Tclient_work.mk w.Client [])), (Tclient_work.mk w.Client []))
              else ((client_work_file s.File (Tclient_work.mk w.Client []))).bind fun r_4 =>
                alt r_4 (fun a_5 =>
                  ((w.Client.Files[a_5]?)).bind fun y_6 =>
                  bif y_6.Lost then (bif (s.Kind != 8) then (((w.Client.Files[a_5]?)).bind fun y_7 =>
                      k10 ((client_work_says_2 6 (Tclient_work.mk (TClient.mk w.Client.ID w.Client.Now w.Client.Epoch w.Client.Seq (w.Client.Files.set a_5 (TCache.mk y_7.Mode y_7.Until y_7.Ver y_7.Body y_7.Dirty y_7.Sent y_7.Called false)) w.Client.Names w.Client.Out w.Client.Bad w.Client.Hits w.Client.Asks) [])), (Tclient_work.mk (TClient.mk w.Client.ID w.Client.Now w.Client.Epoch w.Client.Seq (w.Client.Files.set a_5 (TCache.mk y_7.Mode y_7.Until y_7.Ver y_7.Body y_7.Dirty y_7.Sent y_7.Called false)) w.Client.Names w.Client.Out w.Client.Bad w.Client.Hits w.Client.Asks) [])))
                    else bif (s.Kind == 4) then (((client_work_reads n_ s.File (Tclient_work.mk w.Client []))).bind fun r_8 =>
                        alt r_8 (fun a_9 =>
                          k5 a_9) (fun b_10 =>
                          alt b_10 (fun a_11 =>
                            k6 a_11) (fun b_12 =>
                            alt b_12 (fun a_13 =>
                              k10 (a_13.1, (Tclient_work.mk a_13.2.Client []))) (fun b_14 =>
                              k11 (b_14.1, (Tclient_work.mk b_14.2.Client []))))))
                      else bif (s.Kind == 5) then (((client_work_writes s.File (TWrite.mk s.Off s.Text) (Tclient_work.mk w.Client []))).bind fun r_15 =>
                          alt r_15 (fun a_16 =>
                            k6 a_16) (fun b_17 =>
                            alt b_17 (fun a_18 =>
                              k7 a_18) (fun b_19 =>
                              alt b_19 (fun a_20 =>
                                k8 a_20) (fun b_21 =>
                                alt b_21 (fun a_22 =>
                                  k2 a_22) (fun b_23 =>
                                  alt b_23 (fun a_24 =>
                                    k11 (a_24.1, (Tclient_work.mk a_24.2.Client []))) (fun b_25 =>
                                    alt b_25 (fun a_26 =>
                                      k12 (a_26.1, (Tclient_work.mk a_26.2.Client []))) (fun b_27 =>
                                      k13 (b_27.1, (Tclient_work.mk b_27.2.Client [])))))))))
                        else bif (s.Kind == 6) then (((client_work_syncs s.File (Tclient_work.mk w.Client []))).bind fun r_28 =>
                            alt r_28 (fun a_29 =>
                              k6 a_29) (fun b_30 =>
                              alt b_30 (fun a_31 =>
                                k7 a_31) (fun b_32 =>
                                alt b_32 (fun a_33 =>
                                  k11 (a_33.1, (Tclient_work.mk a_33.2.Client []))) (fun b_34 =>
                                  k12 (b_34.1, (Tclient_work.mk b_34.2.Client []))))))
                          else bif (s.Kind == 7) then (((client_work_drops s.File (Tclient_work.mk w.Client []))).bind fun r_35 =>
                              alt r_35 (fun a_36 =>
                                k5 a_36) (fun b_37 =>
                                alt b_37 (fun a_38 =>
                                  k6 a_38) (fun b_39 =>
                                  alt b_39 (fun a_40 =>
                                    k10 (a_40.1, (Tclient_work.mk a_40.2.Client []))) (fun b_41 =>
                                    k11 (b_41.1, (Tclient_work.mk b_41.2.Client []))))))
                            else bif (s.Kind == 8) then (((client_work_ends s.File (Tclient_work.mk w.Client []))).bind fun r_42 =>
                                alt r_42 (fun a_43 =>
                                  k5 a_43) (fun b_44 =>
                                  alt b_44 (fun a_45 =>
                                    k6 a_45) (fun b_46 =>
                                    k10 (b_46.1, (Tclient_work.mk b_46.2.Client [])))))
                              else k0 (Tclient_work.mk w.Client []))
                  else bif (s.Kind == 4) then (((client_work_reads n_ s.File (Tclient_work.mk w.Client []))).bind fun r_47 =>
                      alt r_47 (fun a_48 =>
                        k5 a_48) (fun b_49 =>
                        alt b_49 (fun a_50 =>
                          k6 a_50) (fun b_51 =>
                          alt b_51 (fun a_52 =>
                            k10 (a_52.1, (Tclient_work.mk a_52.2.Client []))) (fun b_53 =>
                            k11 (b_53.1, (Tclient_work.mk b_53.2.Client []))))))
                    else bif (s.Kind == 5) then (((client_work_writes s.File (TWrite.mk s.Off s.Text) (Tclient_work.mk w.Client []))).bind fun r_54 =>
                        alt r_54 (fun a_55 =>
                          k6 a_55) (fun b_56 =>
                          alt b_56 (fun a_57 =>
                            k7 a_57) (fun b_58 =>
                            alt b_58 (fun a_59 =>
                              k8 a_59) (fun b_60 =>
                              alt b_60 (fun a_61 =>
                                k2 a_61) (fun b_62 =>
                                alt b_62 (fun a_63 =>
                                  k11 (a_63.1, (Tclient_work.mk a_63.2.Client []))) (fun b_64 =>
                                  alt b_64 (fun a_65 =>
                                    k12 (a_65.1, (Tclient_work.mk a_65.2.Client []))) (fun b_66 =>
                                    k13 (b_66.1, (Tclient_work.mk b_66.2.Client [])))))))))
                      else bif (s.Kind == 6) then (((client_work_syncs s.File (Tclient_work.mk w.Client []))).bind fun r_67 =>
                          alt r_67 (fun a_68 =>
                            k6 a_68) (fun b_69 =>
                            alt b_69 (fun a_70 =>
                              k7 a_70) (fun b_71 =>
                              alt b_71 (fun a_72 =>
                                k11 (a_72.1, (Tclient_work.mk a_72.2.Client []))) (fun b_73 =>
                                k12 (b_73.1, (Tclient_work.mk b_73.2.Client []))))))
                        else bif (s.Kind == 7) then (((client_work_drops s.File (Tclient_work.mk w.Client []))).bind fun r_74 =>
                            alt r_74 (fun a_75 =>
                              k5 a_75) (fun b_76 =>
                              alt b_76 (fun a_77 =>
                                k6 a_77) (fun b_78 =>
                                alt b_78 (fun a_79 =>
                                  k10 (a_79.1, (Tclient_work.mk a_79.2.Client []))) (fun b_80 =>
                                  k11 (b_80.1, (Tclient_work.mk b_80.2.Client []))))))
                          else bif (s.Kind == 8) then (((client_work_ends s.File (Tclient_work.mk w.Client []))).bind fun r_81 =>
                              alt r_81 (fun a_82 =>
                                k5 a_82) (fun b_83 =>
                                alt b_83 (fun a_84 =>
                                  k6 a_84) (fun b_85 =>
                                  k10 (b_85.1, (Tclient_work.mk b_85.2.Client [])))))
                            else k0 (Tclient_work.mk w.Client [])) (fun b_86 =>
                  bif (s.Kind == 4) then (((client_work_reads_2 n_ s.File (Tclient_work.mk w.Client []))).bind fun r_87 =>
                    alt r_87 (fun a_88 =>
                      k6 a_88) (fun b_89 =>
                      alt b_89 (fun a_90 =>
                        k7 a_90) (fun b_91 =>
                        alt b_91 (fun a_92 =>
                          k11 (a_92.1, (Tclient_work.mk a_92.2.Client []))) (fun b_93 =>
                          k12 (b_93.1, (Tclient_work.mk b_93.2.Client []))))))
                  else bif (s.Kind == 5) then (((client_work_writes_2 s.File (TWrite.mk s.Off s.Text) (Tclient_work.mk w.Client []))).bind fun r_94 =>
                      alt r_94 (fun a_95 =>
                        k7 a_95) (fun b_96 =>
                        alt b_96 (fun a_97 =>
                          k8 a_97) (fun b_98 =>
                          alt b_98 (fun a_99 =>
                            k2 a_99) (fun b_100 =>
                            alt b_100 (fun a_101 =>
                              k3 a_101) (fun b_102 =>
                              alt b_102 (fun a_103 =>
                                k12 (a_103.1, (Tclient_work.mk a_103.2.Client []))) (fun b_104 =>
                                alt b_104 (fun a_105 =>
                                  k13 (a_105.1, (Tclient_work.mk a_105.2.Client []))) (fun b_106 =>
                                  k14 (b_106.1, (Tclient_work.mk b_106.2.Client [])))))))))
                    else bif (s.Kind == 6) then (((client_work_syncs_2 s.File (Tclient_work.mk w.Client []))).bind fun r_107 =>
                        alt r_107 (fun a_108 =>
                          k7 a_108) (fun b_109 =>
                          alt b_109 (fun a_110 =>
                            k8 a_110) (fun b_111 =>
                            alt b_111 (fun a_112 =>
                              k12 (a_112.1, (Tclient_work.mk a_112.2.Client []))) (fun b_113 =>
                              k13 (b_113.1, (Tclient_work.mk b_113.2.Client []))))))
                      else bif (s.Kind == 7) then (((client_work_drops_2 s.File (Tclient_work.mk w.Client []))).bind fun r_114 =>
                          alt r_114 (fun a_115 =>
                            k6 a_115) (fun b_116 =>
                            alt b_116 (fun a_117 =>
                              k7 a_117) (fun b_118 =>
                              alt b_118 (fun a_119 =>
                                k11 (a_119.1, (Tclient_work.mk a_119.2.Client []))) (fun b_120 =>
                                k12 (b_120.1, (Tclient_work.mk b_120.2.Client []))))))
                        else bif (s.Kind == 8) then (((client_work_ends_2 s.File (Tclient_work.mk w.Client []))).bind fun r_121 =>
                            alt r_121 (fun a_122 =>
                              k6 a_122) (fun b_123 =>
                              alt b_123 (fun a_124 =>
                                k7 a_124) (fun b_125 =>
                                k11 (b_125.1, (Tclient_work.mk b_125.2.Client [])))))
                          else k1 (Tclient_work.mk w.Client [])))
            else ((client_work_file s.File (Tclient_work.mk w.Client []))).bind fun r_126 =>
              alt r_126 (fun a_127 =>
                ((w.Client.Files[a_127]?)).bind fun y_128 =>
                bif y_128.Lost then (bif (s.Kind != 8) then (((w.Client.Files[a_127]?)).bind fun y_129 =>
                    k10 ((client_work_says_2 6 (Tclient_work.mk (TClient.mk w.Client.ID w.Client.Now w.Client.Epoch w.Client.Seq (w.Client.Files.set a_127 (TCache.mk y_129.Mode y_129.Until y_129.Ver y_129.Body y_129.Dirty y_129.Sent y_129.Called false)) w.Client.Names w.Client.Out w.Client.Bad w.Client.Hits w.Client.Asks) [])), (Tclient_work.mk (TClient.mk w.Client.ID w.Client.Now w.Client.Epoch w.Client.Seq (w.Client.Files.set a_127 (TCache.mk y_129.Mode y_129.Until y_129.Ver y_129.Body y_129.Dirty y_129.Sent y_129.Called false)) w.Client.Names w.Client.Out w.Client.Bad w.Client.Hits w.Client.Asks) [])))
                  else bif (s.Kind == 4) then (((client_work_reads n_ s.File (Tclient_work.mk w.Client []))).bind fun r_130 =>
                      alt r_130 (fun a_131 =>
                        k5 a_131) (fun b_132 =>
                        alt b_132 (fun a_133 =>
                          k6 a_133) (fun b_134 =>
                          alt b_134 (fun a_135 =>
                            k10 (a_135.1, (Tclient_work.mk a_135.2.Client []))) (fun b_136 =>
                            k11 (b_136.1, (Tclient_work.mk b_136.2.Client []))))))
                    else bif (s.Kind == 5) then (((client_work_writes s.File (TWrite.mk s.Off s.Text) (Tclient_work.mk w.Client []))).bind fun r_137 =>
                        alt r_137 (fun a_138 =>
                          k6 a_138) (fun b_139 =>
                          alt b_139 (fun a_140 =>
                            k7 a_140) (fun b_141 =>
                            alt b_141 (fun a_142 =>
                              k8 a_142) (fun b_143 =>
                              alt b_143 (fun a_144 =>
                                k2 a_144) (fun b_145 =>
                                alt b_145 (fun a_146 =>
                                  k11 (a_146.1, (Tclient_work.mk a_146.2.Client []))) (fun b_147 =>
                                  alt b_147 (fun a_148 =>
                                    k12 (a_148.1, (Tclient_work.mk a_148.2.Client []))) (fun b_149 =>
                                    k13 (b_149.1, (Tclient_work.mk b_149.2.Client [])))))))))
                      else bif (s.Kind == 6) then (((client_work_syncs s.File (Tclient_work.mk w.Client []))).bind fun r_150 =>
                          alt r_150 (fun a_151 =>
                            k6 a_151) (fun b_152 =>
                            alt b_152 (fun a_153 =>
                              k7 a_153) (fun b_154 =>
                              alt b_154 (fun a_155 =>
                                k11 (a_155.1, (Tclient_work.mk a_155.2.Client []))) (fun b_156 =>
                                k12 (b_156.1, (Tclient_work.mk b_156.2.Client []))))))
                        else bif (s.Kind == 7) then (((client_work_drops s.File (Tclient_work.mk w.Client []))).bind fun r_157 =>
                            alt r_157 (fun a_158 =>
                              k5 a_158) (fun b_159 =>
                              alt b_159 (fun a_160 =>
                                k6 a_160) (fun b_161 =>
                                alt b_161 (fun a_162 =>
                                  k10 (a_162.1, (Tclient_work.mk a_162.2.Client []))) (fun b_163 =>
                                  k11 (b_163.1, (Tclient_work.mk b_163.2.Client []))))))
                          else bif (s.Kind == 8) then (((client_work_ends s.File (Tclient_work.mk w.Client []))).bind fun r_164 =>
                              alt r_164 (fun a_165 =>
                                k5 a_165) (fun b_166 =>
                                alt b_166 (fun a_167 =>
                                  k6 a_167) (fun b_168 =>
                                  k10 (b_168.1, (Tclient_work.mk b_168.2.Client [])))))
                            else k0 (Tclient_work.mk w.Client []))
                else bif (s.Kind == 4) then (((client_work_reads n_ s.File (Tclient_work.mk w.Client []))).bind fun r_169 =>
                    alt r_169 (fun a_170 =>
                      k5 a_170) (fun b_171 =>
                      alt b_171 (fun a_172 =>
                        k6 a_172) (fun b_173 =>
                        alt b_173 (fun a_174 =>
                          k10 (a_174.1, (Tclient_work.mk a_174.2.Client []))) (fun b_175 =>
                          k11 (b_175.1, (Tclient_work.mk b_175.2.Client []))))))
                  else bif (s.Kind == 5) then (((client_work_writes s.File (TWrite.mk s.Off s.Text) (Tclient_work.mk w.Client []))).bind fun r_176 =>
                      alt r_176 (fun a_177 =>
                        k6 a_177) (fun b_178 =>
                        alt b_178 (fun a_179 =>
                          k7 a_179) (fun b_180 =>
                          alt b_180 (fun a_181 =>
                            k8 a_181) (fun b_182 =>
                            alt b_182 (fun a_183 =>
                              k2 a_183) (fun b_184 =>
                              alt b_184 (fun a_185 =>
                                k11 (a_185.1, (Tclient_work.mk a_185.2.Client []))) (fun b_186 =>
                                alt b_186 (fun a_187 =>
                                  k12 (a_187.1, (Tclient_work.mk a_187.2.Client []))) (fun b_188 =>
                                  k13 (b_188.1, (Tclient_work.mk b_188.2.Client [])))))))))
                    else bif (s.Kind == 6) then (((client_work_syncs s.File (Tclient_work.mk w.Client []))).bind fun r_189 =>
                        alt r_189 (fun a_190 =>
                          k6 a_190) (fun b_191 =>
                          alt b_191 (fun a_192 =>
                            k7 a_192) (fun b_193 =>
                            alt b_193 (fun a_194 =>
                              k11 (a_194.1, (Tclient_work.mk a_194.2.Client []))) (fun b_195 =>
                              k12 (b_195.1, (Tclient_work.mk b_195.2.Client []))))))
                      else bif (s.Kind == 7) then (((client_work_drops s.File (Tclient_work.mk w.Client []))).bind fun r_196 =>
                          alt r_196 (fun a_197 =>
                            k5 a_197) (fun b_198 =>
                            alt b_198 (fun a_199 =>
                              k6 a_199) (fun b_200 =>
                              alt b_200 (fun a_201 =>
                                k10 (a_201.1, (Tclient_work.mk a_201.2.Client []))) (fun b_202 =>
                                k11 (b_202.1, (Tclient_work.mk b_202.2.Client []))))))
                        else bif (s.Kind == 8) then (((client_work_ends s.File (Tclient_work.mk w.Client []))).bind fun r_203 =>
                            alt r_203 (fun a_204 =>
                              k5 a_204) (fun b_205 =>
                              alt b_205 (fun a_206 =>
                                k6 a_206) (fun b_207 =>
                                k10 (b_207.1, (Tclient_work.mk b_207.2.Client [])))))
                          else k0 (Tclient_work.mk w.Client [])) (fun b_208 =>
                bif (s.Kind == 4) then (((client_work_reads_2 n_ s.File (Tclient_work.mk w.Client []))).bind fun r_209 =>
                  alt r_209 (fun a_210 =>
                    k6 a_210) (fun b_211 =>
                    alt b_211 (fun a_212 =>
                      k7 a_212) (fun b_213 =>
                      alt b_213 (fun a_214 =>
                        k11 (a_214.1, (Tclient_work.mk a_214.2.Client []))) (fun b_215 =>
                        k12 (b_215.1, (Tclient_work.mk b_215.2.Client []))))))
                else bif (s.Kind == 5) then (((client_work_writes_2 s.File (TWrite.mk s.Off s.Text) (Tclient_work.mk w.Client []))).bind fun r_216 =>
                    alt r_216 (fun a_217 =>
                      k7 a_217) (fun b_218 =>
                      alt b_218 (fun a_219 =>
                        k8 a_219) (fun b_220 =>
                        alt b_220 (fun a_221 =>
                          k2 a_221) (fun b_222 =>
                          alt b_222 (fun a_223 =>
                            k3 a_223) (fun b_224 =>
                            alt b_224 (fun a_225 =>
                              k12 (a_225.1, (Tclient_work.mk a_225.2.Client []))) (fun b_226 =>
                              alt b_226 (fun a_227 =>
                                k13 (a_227.1, (Tclient_work.mk a_227.2.Client []))) (fun b_228 =>
                                k14 (b_228.1, (Tclient_work.mk b_228.2.Client [])))))))))
                  else bif (s.Kind == 6) then (((client_work_syncs_2 s.File (Tclient_work.mk w.Client []))).bind fun r_229 =>
                      alt r_229 (fun a_230 =>
                        k7 a_230) (fun b_231 =>
                        alt b_231 (fun a_232 =>
                          k8 a_232) (fun b_233 =>
                          alt b_233 (fun a_234 =>
                            k12 (a_234.1, (Tclient_work.mk a_234.2.Client []))) (fun b_235 =>
                            k13 (b_235.1, (Tclient_work.mk b_235.2.Client []))))))
                    else bif (s.Kind == 7) then (((client_work_drops_2 s.File (Tclient_work.mk w.Client []))).bind fun r_236 =>
                        alt r_236 (fun a_237 =>
                          k6 a_237) (fun b_238 =>
                          alt b_238 (fun a_239 =>
                            k7 a_239) (fun b_240 =>
                            alt b_240 (fun a_241 =>
                              k11 (a_241.1, (Tclient_work.mk a_241.2.Client []))) (fun b_242 =>
                              k12 (b_242.1, (Tclient_work.mk b_242.2.Client []))))))
                      else bif (s.Kind == 8) then (((client_work_ends_2 s.File (Tclient_work.mk w.Client []))).bind fun r_243 =>
                          alt r_243 (fun a_244 =>
                            k6 a_244) (fun b_245 =>
                            alt b_245 (fun a_246 =>
                              k7 a_246) (fun b_247 =>
                              k11 (b_247.1, (Tclient_work.mk b_247.2.Client [])))))
                        else k1 (Tclient_work.mk w.Client []))
def client_work_step (s : TStep) (w : Tclient_work) : Option (Tclient_work ⊕ (Tclient_work ⊕ (Tclient_work ⊕ (Tclient_work ⊕ (Tclient_work ⊕ (Tclient_work ⊕ (Tclient_work ⊕ (Tclient_work ⊕ (Tclient_work ⊕ ((Tclient_told × Tclient_work) ⊕ ((Tclient_told × Tclient_work) ⊕ ((Tclient_told × Tclient_work) ⊕ ((Tclient_told × Tclient_work) ⊕ ((Tclient_told × Tclient_work) ⊕ (Tclient_told × Tclient_work))))))))))))))) := client_work_step_k n_ (fun x => some (.inl x)) (fun x => some (.inr (.inl x))) (fun x => some (.inr (.inr (.inl x)))) (fun x => some (.inr (.inr (.inr (.inl x))))) (fun x => some (.inr (.inr (.inr (.inr (.inl x)))))) (fun x => some (.inr (.inr (.inr (.inr (.inr (.inl x))))))) (fun x => some (.inr (.inr (.inr (.inr (.inr (.inr (.inl x)))))))) (fun x => some (.inr (.inr (.inr (.inr (.inr (.inr (.inr (.inl x))))))))) (fun x => some (.inr (.inr (.inr (.inr (.inr (.inr (.inr (.inr (.inl x)))))))))) (fun x => some (.inr (.inr (.inr (.inr (.inr (.inr (.inr (.inr (.inr (.inl x))))))))))) (fun x => some (.inr (.inr (.inr (.inr (.inr (.inr (.inr (.inr (.inr (.inr (.inl x)))))))))))) (fun x => some (.inr (.inr (.inr (.inr (.inr (.inr (.inr (.inr (.inr (.inr (.inr (.inl x))))))))))))) (fun x => some (.inr (.inr (.inr (.inr (.inr (.inr (.inr (.inr (.inr (.inr (.inr (.inr (.inl x)))))))))))))) (fun x => some (.inr (.inr (.inr (.inr (.inr (.inr (.inr (.inr (.inr (.inr (.inr (.inr (.inr (.inl x))))))))))))))) (fun x => some (.inr (.inr (.inr (.inr (.inr (.inr (.inr (.inr (.inr (.inr (.inr (.inr (.inr (.inr x))))))))))))))) s w
theorem client_work_step_bind {α : Type} (k0 : Tclient_work → Option α) (k1 : Tclient_work → Option α) (k2 : Tclient_work → Option α) (k3 : Tclient_work → Option α) (k4 : Tclient_work → Option α) (k5 : Tclient_work → Option α) (k6 : Tclient_work → Option α) (k7 : Tclient_work → Option α) (k8 : Tclient_work → Option α) (k9 : (Tclient_told × Tclient_work) → Option α) (k10 : (Tclient_told × Tclient_work) → Option α) (k11 : (Tclient_told × Tclient_work) → Option α) (k12 : (Tclient_told × Tclient_work) → Option α) (k13 : (Tclient_told × Tclient_work) → Option α) (k14 : (Tclient_told × Tclient_work) → Option α) (s : TStep) (w : Tclient_work) : client_work_step_k n_ k0 k1 k2 k3 k4 k5 k6 k7 k8 k9 k10 k11 k12 k13 k14 s w = (client_work_step n_ s w).bind (fun s0_ => alt s0_ k0 (fun s1_ => alt s1_ k1 (fun s2_ => alt s2_ k2 (fun s3_ => alt s3_ k3 (fun s4_ => alt s4_ k4 (fun s5_ => alt s5_ k5 (fun s6_ => alt s6_ k6 (fun s7_ => alt s7_ k7 (fun s8_ => alt s8_ k8 (fun s9_ => alt s9_ k9 (fun s10_ => alt s10_ k10 (fun s11_ => alt s11_ k11 (fun s12_ => alt s12_ k12 (fun s13_ => alt s13_ k13 k14)))))))))))))) := by
  unfold client_work_step client_work_step_k; simp only [bind_cond, Option.bind_assoc, alt_bind, Option.bind_some, Option.bind_none, alt_inl, alt_inr]

/-! (*tenancy/client.work).does -/
@[reducible] def client_work_does_k {α : Type} (k0 : (TAns × Tclient_work) → Option α) (k1 : (TAns × Tclient_work) → Option α) (k2 : (TAns × Tclient_work) → Option α) (k3 : (TAns × Tclient_work) → Option α) (k4 : (TAns × Tclient_work) → Option α) (k5 : (TAns × Tclient_work) → Option α) (k6 : Tclient_work → Option α) (k7 : Tclient_work → Option α) (k8 : Tclient_work → Option α) (k9 : Tclient_work → Option α) (k10 : Tclient_work → Option α) (k11 : Tclient_work → Option α) (k12 : Tclient_work → Option α) (s : TStep) (w : Tclient_work) : Option α :=
  ((client_work_step n_ s (Tclient_work.mk w.Client []))).bind fun r_1 =>
  alt r_1 (fun a_2 =>
    k1 ((TAns.mk 5 0 []), (Tclient_work.mk a_2.Client []))) (fun b_3 =>
    alt b_3 (fun a_4 =>
      k2 ((TAns.mk 5 0 []), (Tclient_work.mk a_4.Client []))) (fun b_5 =>
      alt b_5 (fun a_6 =>
        k8 a_6) (fun b_7 =>
        alt b_7 (fun a_8 =>
          k9 a_8) (fun b_9 =>
          alt b_9 (fun a_10 =>
            k10 a_10) (fun b_11 =>
            alt b_11 (fun a_12 =>
              k11 a_12) (fun b_13 =>
              alt b_13 (fun a_14 =>
                k12 a_14) (fun b_15 =>
                alt b_15 (fun a_16 =>
                  k6 a_16) (fun b_17 =>
                  alt b_17 (fun a_18 =>
                    k7 a_18) (fun b_19 =>
                    alt b_19 (fun a_20 =>
                      k0 (a_20.1.a, (Tclient_work.mk a_20.2.Client []))) (fun b_21 =>
                      alt b_21 (fun a_22 =>
                        k1 (a_22.1.a, (Tclient_work.mk a_22.2.Client []))) (fun b_23 =>
                        alt b_23 (fun a_24 =>
                          k2 (a_24.1.a, (Tclient_work.mk a_24.2.Client []))) (fun b_25 =>
                          alt b_25 (fun a_26 =>
                            k3 (a_26.1.a, (Tclient_work.mk a_26.2.Client []))) (fun b_27 =>
                            alt b_27 (fun a_28 =>
                              k4 (a_28.1.a, (Tclient_work.mk a_28.2.Client []))) (fun b_29 =>
                              k5 (b_29.1.a, (Tclient_work.mk b_29.2.Client []))))))))))))))))
def client_work_does (s : TStep) (w : Tclient_work) : Option ((TAns × Tclient_work) ⊕ ((TAns × Tclient_work) ⊕ ((TAns × Tclient_work) ⊕ ((TAns × Tclient_work) ⊕ ((TAns × Tclient_work) ⊕ ((TAns × Tclient_work) ⊕ (Tclient_work ⊕ (Tclient_work ⊕ (Tclient_work ⊕ (Tclient_work ⊕ (Tclient_work ⊕ (Tclient_work ⊕ Tclient_work)))))))))))) := client_work_does_k n_ (fun x => some (.inl x)) (fun x => some (.inr (.inl x))) (fun x => some (.inr (.inr (.inl x)))) (fun x => some (.inr (.inr (.inr (.inl x))))) (fun x => some (.inr (.inr (.inr (.inr (.inl x)))))) (fun x => some (.inr (.inr (.inr (.inr (.inr (.inl x))))))) (fun x => some (.inr (.inr (.inr (.inr (.inr (.inr (.inl x)))))))) (fun x => some (.inr (.inr (.inr (.inr (.inr (.inr (.inr (.inl x))))))))) (fun x => some (.inr (.inr (.inr (.inr (.inr (.inr (.inr (.inr (.inl x)))))))))) (fun x => some (.inr (.inr (.inr (.inr (.inr (.inr (.inr (.inr (.inr (.inl x))))))))))) (fun x => some (.inr (.inr (.inr (.inr (.inr (.inr (.inr (.inr (.inr (.inr (.inl x)))))))))))) (fun x => some (.inr (.inr (.inr (.inr (.inr (.inr (.inr (.inr (.inr (.inr (.inr (.inl x))))))))))))) (fun x => some (.inr (.inr (.inr (.inr (.inr (.inr (.inr (.inr (.inr (.inr (.inr (.inr x))))))))))))) s w
theorem client_work_does_bind {α : Type} (k0 : (TAns × Tclient_work) → Option α) (k1 : (TAns × Tclient_work) → Option α) (k2 : (TAns × Tclient_work) → Option α) (k3 : (TAns × Tclient_work) → Option α) (k4 : (TAns × Tclient_work) → Option α) (k5 : (TAns × Tclient_work) → Option α) (k6 : Tclient_work → Option α) (k7 : Tclient_work → Option α) (k8 : Tclient_work → Option α) (k9 : Tclient_work → Option α) (k10 : Tclient_work → Option α) (k11 : Tclient_work → Option α) (k12 : Tclient_work → Option α) (s : TStep) (w : Tclient_work) : client_work_does_k n_ k0 k1 k2 k3 k4 k5 k6 k7 k8 k9 k10 k11 k12 s w = (client_work_does n_ s w).bind (fun s0_ => alt s0_ k0 (fun s1_ => alt s1_ k1 (fun s2_ => alt s2_ k2 (fun s3_ => alt s3_ k3 (fun s4_ => alt s4_ k4 (fun s5_ => alt s5_ k5 (fun s6_ => alt s6_ k6 (fun s7_ => alt s7_ k7 (fun s8_ => alt s8_ k8 (fun s9_ => alt s9_ k9 (fun s10_ => alt s10_ k10 (fun s11_ => alt s11_ k11 k12)))))))))))) := by
  unfold client_work_does client_work_does_k; simp only [bind_cond, Option.bind_assoc, alt_bind, Option.bind_some, Option.bind_none, alt_inl, alt_inr]

/-! tenancy/client.Do -/
@[reducible] def client_Do_k {α : Type} (k0 : (TClient × TAns × List TAsk) → Option α) (c : TClient) (s : TStep) : Option α :=
  ((client_of n_ c)).bind fun r_1 =>
  ((client_work_does n_ s (Tclient_work.mk r_1.Client []))).bind fun r_2 =>
  alt r_2 (fun a_3 =>
    k0 (a_3.2.Client, a_3.1, [])) (fun b_4 =>
    alt b_4 (fun a_5 =>
      k0 (a_5.2.Client, a_5.1, [])) (fun b_6 =>
      alt b_6 (fun a_7 =>
        k0 (a_7.2.Client, a_7.1, [])) (fun b_8 =>
        alt b_8 (fun a_9 =>
          k0 (a_9.2.Client, a_9.1, [])) (fun b_10 =>
          alt b_10 (fun a_11 =>
            k0 (a_11.2.Client, a_11.1, [])) (fun b_12 =>
            alt b_12 (fun a_13 =>
              k0 (a_13.2.Client, a_13.1, [])) (fun b_14 =>
              alt b_14 (fun a_15 =>
                k0 (a_15.Client, (TAns.mk 5 0 []), a_15.asked)) (fun b_16 =>
                alt b_16 (fun a_17 =>
                  k0 (a_17.Client, (TAns.mk 5 0 []), a_17.asked)) (fun b_18 =>
                  alt b_18 (fun a_19 =>
                    k0 (a_19.Client, (TAns.mk 5 0 []), a_19.asked)) (fun b_20 =>
                    alt b_20 (fun a_21 =>
                      k0 (a_21.Client, (TAns.mk 5 0 []), a_21.asked)) (fun b_22 =>
                      alt b_22 (fun a_23 =>
                        k0 (a_23.Client, (TAns.mk 5 0 []), a_23.asked)) (fun b_24 =>
                        alt b_24 (fun a_25 =>
                          k0 (a_25.Client, (TAns.mk 5 0 []), a_25.asked)) (fun b_26 =>
                          k0 (b_26.Client, (TAns.mk 5 0 []), b_26.asked)))))))))))))
def client_Do (c : TClient) (s : TStep) : Option (TClient × TAns × List TAsk) := client_Do_k n_ (fun x => some x) c s
theorem client_Do_bind {α : Type} (k0 : (TClient × TAns × List TAsk) → Option α) (c : TClient) (s : TStep) : client_Do_k n_ k0 c s = (client_Do n_ c s).bind k0 := by
  unfold client_Do client_Do_k; simp only [bind_cond, Option.bind_assoc, alt_bind, Option.bind_some, Option.bind_none, alt_inl, alt_inr]

/-! tenancy/tenancyref13.num -/
@[reducible] def ref13_num_k {α : Type} (k : Bool → α) (n : Int) (least : Int) : α :=
  bif (decide (n ≥ least)) then k (decide (n ≤ 1073741824))
  else k false
def ref13_num (n : Int) (least : Int) : Bool := ref13_num_k id n least
theorem ref13_num_bind {α : Type} (k : Bool → α) (n : Int) (least : Int) : ref13_num_k k n least = k (ref13_num n least) := by
  unfold ref13_num ref13_num_k; simp only [Bool.apply_cond k, id]

/-! tenancy/tenancyref13.MayTell -/
@[reducible] def ref13_MayTell_k {α : Type} (k : Bool → α) (t : TTell) : α :=
  bif (decide (t.Kind < 1)) then k false
  else bif (decide (t.Kind > 3)) then k false
    else bif (decide (t.To < 1)) then k false
      else bif (decide (t.To > 3)) then k false
        else bif (!(ref13_num t.Epoch 0)) then k false
          else bif (t.Kind == 1) then (bif (ref13_num t.Seq 1) then (bif (decide (t.Err ≥ 0)) then (bif (decide (t.Err ≤ 7)) then (bif (decide (t.File ≥ 0)) then (bif (decide (t.File ≤ 6)) then (bif (decide (t.Mode ≥ 0)) then (bif (decide (t.Mode ≤ 2)) then (bif (ref13_num t.Ver 0) then k (decide ((t.Body.length : Int) ≤ 24))
                            else k false)
                          else k false)
                        else k false)
                      else k false)
                    else k false)
                  else k false)
                else k false)
              else k false)
            else bif (t.Kind == 2) then (bif (decide (t.File ≥ 1)) then (bif (decide (t.File ≤ 6)) then k (TTell.eqb t (TTell.mk t.Kind t.To t.Epoch 0 0 t.File 0 0 []))
                  else k false)
                else k false)
              else k (TTell.eqb t (TTell.mk t.Kind t.To t.Epoch 0 0 0 0 0 []))
def ref13_MayTell (t : TTell) : Bool := ref13_MayTell_k id t
theorem ref13_MayTell_bind {α : Type} (k : Bool → α) (t : TTell) : ref13_MayTell_k k t = k (ref13_MayTell t) := by
  unfold ref13_MayTell ref13_MayTell_k; simp only [Bool.apply_cond k, id]

/-! tenancy/tenancyref1.Put -/
@[reducible] def ref1_Put_s0k {α : Type} (v : Int) (kc : (Int × List UInt8) → Option α) (k0 : (List UInt8) → Option α) (i : Int) (out : List UInt8) : Option α :=
  bif (decide (i ≥ 0)) then (bif (decide ((wi64 (8 * i)) < 0)) then none
    else bif (decide ((out.length + 1) ≤ lim)) then kc ((wi64 (i - 1)), (out ++ [(b8 (wu8 (shrI .i64 v (wi64 (8 * i)))))]))
      else none)
  else k0 out
def ref1_Put_s0 (v : Int) (v_ : Int × List UInt8) : Option ((Int × List UInt8) ⊕ (List UInt8)) := ref1_Put_s0k v (fun x => some (.inl x)) (fun x => some (.inr x)) v_.1 v_.2
def ref1_Put_l0 (v : Int) (i : Int) (out : List UInt8) : Option (List UInt8) := iter (ref1_Put_s0 v) n_ (i, out)
theorem ref1_Put_s0_bind {α : Type} (v : Int) (kc : (Int × List UInt8) → Option α) (k0 : (List UInt8) → Option α) (i : Int) (out : List UInt8) : ref1_Put_s0k v kc k0 i out = (ref1_Put_s0 v (i, out)).bind fun s_ => alt s_ kc k0 := by
  unfold ref1_Put_s0 ref1_Put_s0k; simp only [bind_cond, Option.bind_assoc, alt_bind, Option.bind_some, Option.bind_none, alt_inl, alt_inr]
@[reducible] def ref1_Put_k {α : Type} (k0 : (List UInt8) → Option α) (b : List UInt8) (v : Int) (n : Int) : Option α :=
  bif (decide (b.length ≤ lim)) then (bif (decide (n < 1)) then k0 b
    else bif (decide (n > 8)) then k0 b
      else ((ref1_Put_l0 n_ v (wi64 (n - 1)) b)).bind fun r_1 =>
        k0 r_1)
  else none
def ref1_Put (b : List UInt8) (v : Int) (n : Int) : Option (List UInt8) := ref1_Put_k n_ (fun x => some x) b v n
theorem ref1_Put_bind {α : Type} (k0 : (List UInt8) → Option α) (b : List UInt8) (v : Int) (n : Int) : ref1_Put_k n_ k0 b v n = (ref1_Put n_ b v n).bind k0 := by
  unfold ref1_Put ref1_Put_k; simp only [bind_cond, Option.bind_assoc, alt_bind, Option.bind_some, Option.bind_none, alt_inl, alt_inr]

/-! tenancy/tenancyref1.Text -/
@[reducible] def ref1_Text_k {α : Type} (k0 : (List UInt8) → Option α) (b : List UInt8) (s : List UInt8) : Option α :=
  bif (decide (b.length ≤ lim)) then (bif (decide ((s.length : Int) > 255)) then k0 b
    else bif (decide ((b.length + 1) ≤ lim)) then (bif (decide (((b ++ [(b8 (wu8 (s.length : Int)))]).length + s.length) ≤ lim)) then k0 ((b ++ [(b8 (wu8 (s.length : Int)))]) ++ s)
        else none)
      else none)
  else none
def ref1_Text (b : List UInt8) (s : List UInt8) : Option (List UInt8) := ref1_Text_k (fun x => some x) b s
theorem ref1_Text_bind {α : Type} (k0 : (List UInt8) → Option α) (b : List UInt8) (s : List UInt8) : ref1_Text_k k0 b s = (ref1_Text b s).bind k0 := by
  unfold ref1_Text ref1_Text_k; simp only [bind_cond, Option.bind_assoc, alt_bind, Option.bind_some, Option.bind_none, alt_inl, alt_inr]

/-! tenancy/tenancyref1.Crc -/
@[reducible] def ref1_Crc_s0k {α : Type} (b : List UInt8) (i : Int) (kc : (Int × Int) → Option α) (k0 : Int → Option α) (c : Int) (k : Int) : Option α :=
  bif (decide (k < 8)) then (bif ((c.tmod 2) == 1) then kc ((bxor .i64 (wi64 (c.tdiv 2)) 40961), (wi64 (k + 1)))
    else kc ((wi64 (c.tdiv 2)), (wi64 (k + 1))))
  else k0 c
def ref1_Crc_s0 (b : List UInt8) (i : Int) (v_ : Int × Int) : Option ((Int × Int) ⊕ Int) := ref1_Crc_s0k b i (fun x => some (.inl x)) (fun x => some (.inr x)) v_.1 v_.2
def ref1_Crc_l0 (b : List UInt8) (i : Int) (c : Int) (k : Int) : Option Int := iter (ref1_Crc_s0 b i) n_ (c, k)
theorem ref1_Crc_s0_bind {α : Type} (b : List UInt8) (i : Int) (kc : (Int × Int) → Option α) (k0 : Int → Option α) (c : Int) (k : Int) : ref1_Crc_s0k b i kc k0 c k = (ref1_Crc_s0 b i (c, k)).bind fun s_ => alt s_ kc k0 := by
  unfold ref1_Crc_s0 ref1_Crc_s0k; simp only [bind_cond, Option.bind_assoc, alt_bind, Option.bind_some, Option.bind_none, alt_inl, alt_inr]
@[reducible] def ref1_Crc_s1k {α : Type} (b : List UInt8) (kc : (Int × Int) → Option α) (k0 : Int → Option α) (c : Int) (i : Int) : Option α :=
  bif (decide (i < (b.length : Int))) then (bif (inR i b.length) then (((b[i.toNat]?)).bind fun y_1 =>
      ((ref1_Crc_l0 n_ b i (bxor .i64 c (wi64 (i8 y_1))) 0)).bind fun r_2 =>
      kc (r_2, (wi64 (i + 1))))
    else none)
  else k0 c
def ref1_Crc_s1 (b : List UInt8) (v_ : Int × Int) : Option ((Int × Int) ⊕ Int) := ref1_Crc_s1k n_ b (fun x => some (.inl x)) (fun x => some (.inr x)) v_.1 v_.2
def ref1_Crc_l1 (b : List UInt8) (c : Int) (i : Int) : Option Int := iter (ref1_Crc_s1 n_ b) n_ (c, i)
theorem ref1_Crc_s1_bind {α : Type} (b : List UInt8) (kc : (Int × Int) → Option α) (k0 : Int → Option α) (c : Int) (i : Int) : ref1_Crc_s1k n_ b kc k0 c i = (ref1_Crc_s1 n_ b (c, i)).bind fun s_ => alt s_ kc k0 := by
  unfold ref1_Crc_s1 ref1_Crc_s1k; simp only [bind_cond, Option.bind_assoc, alt_bind, Option.bind_some, Option.bind_none, alt_inl, alt_inr]
@[reducible] def ref1_Crc_k {α : Type} (k0 : Int → Option α) (b : List UInt8) : Option α :=
  ((ref1_Crc_l1 n_ b 0 0)).bind fun r_1 =>
  k0 (wu16 r_1)
def ref1_Crc (b : List UInt8) : Option Int := ref1_Crc_k n_ (fun x => some x) b
theorem ref1_Crc_bind {α : Type} (k0 : Int → Option α) (b : List UInt8) : ref1_Crc_k n_ k0 b = (ref1_Crc n_ b).bind k0 := by
  unfold ref1_Crc ref1_Crc_k; simp only [bind_cond, Option.bind_assoc, alt_bind, Option.bind_some, Option.bind_none, alt_inl, alt_inr]

/-! tenancy/tenancyref13.sealed -/
@[reducible] def ref13_sealed_k {α : Type} (k0 : (List UInt8) → Option α) (b : List UInt8) : Option α :=
  ((ref1_Crc n_ b)).bind fun r_1 =>
  ((ref1_Put n_ b (wi64 r_1) 2)).bind fun r_2 =>
  k0 r_2
def ref13_sealed (b : List UInt8) : Option (List UInt8) := ref13_sealed_k n_ (fun x => some x) b
theorem ref13_sealed_bind {α : Type} (k0 : (List UInt8) → Option α) (b : List UInt8) : ref13_sealed_k n_ k0 b = (ref13_sealed n_ b).bind k0 := by
  unfold ref13_sealed ref13_sealed_k; simp only [bind_cond, Option.bind_assoc, alt_bind, Option.bind_some, Option.bind_none, alt_inl, alt_inr]

/-! tenancy/tenancyref13.PutTell -/
@[reducible] def ref13_PutTell_k {α : Type} (k0 : (List UInt8) → Option α) (t : TTell) : Option α :=
  bif (!(ref13_MayTell t)) then k0 ([])
  else ((ref1_Put n_ [] t.Kind 1)).bind fun r_1 =>
    ((ref1_Put n_ r_1 t.To 1)).bind fun r_2 =>
    ((ref1_Put n_ r_2 t.Epoch 4)).bind fun r_3 =>
    ((ref1_Put n_ r_3 t.Seq 4)).bind fun r_4 =>
    ((ref1_Put n_ r_4 t.Err 1)).bind fun r_5 =>
    ((ref1_Put n_ r_5 t.File 1)).bind fun r_6 =>
    ((ref1_Put n_ r_6 t.Mode 1)).bind fun r_7 =>
    ((ref1_Put n_ r_7 t.Ver 4)).bind fun r_8 =>
    ((ref1_Text r_8 t.Body)).bind fun r_9 =>
    ((ref13_sealed n_ r_9)).bind fun r_10 =>
    k0 r_10
def ref13_PutTell (t : TTell) : Option (List UInt8) := ref13_PutTell_k n_ (fun x => some x) t
theorem ref13_PutTell_bind {α : Type} (k0 : (List UInt8) → Option α) (t : TTell) : ref13_PutTell_k n_ k0 t = (ref13_PutTell n_ t).bind k0 := by
  unfold ref13_PutTell ref13_PutTell_k; simp only [bind_cond, Option.bind_assoc, alt_bind, Option.bind_some, Option.bind_none, alt_inl, alt_inr]

/-! tenancy/bits.front -/
@[reducible] def bits_front_k {α : Type} (k0 : (List UInt8) → Option α) (k1 : Unit → Option α) (b : List UInt8) (n : Int) : Option α :=
  bif (decide ((b.length : Int) < n)) then k1 ()
  else bif (cutOk 0 n b.length) then k0 (cutL b 0 n)
    else none
def bits_front (b : List UInt8) (n : Int) : Option ((List UInt8) ⊕ Unit) := bits_front_k (fun x => some (.inl x)) (fun x => some (.inr x)) b n
theorem bits_front_bind {α : Type} (k0 : (List UInt8) → Option α) (k1 : Unit → Option α) (b : List UInt8) (n : Int) : bits_front_k k0 k1 b n = (bits_front b n).bind (fun s0_ => alt s0_ k0 k1) := by
  unfold bits_front bits_front_k; simp only [bind_cond, Option.bind_assoc, alt_bind, Option.bind_some, Option.bind_none, alt_inl, alt_inr]

/-! tenancy/bits.Take -/
@[reducible] def bits_Take_s0k {α : Type} (t16 : List UInt8) (t17 : Int) (ok : Bool) (kc : (Int × Int) → Option α) (k0 : Int → Option α) (v : Int) (t18 : Int) : Option α :=
  bif (decide (t18 < t17)) then (bif (inR t18 t16.length) then (((t16[t18.toNat]?)).bind fun y_1 =>
      kc ((bor .i64 (shlI .i64 v 8) (wi64 (i8 y_1))), (wi64 (t18 + 1))))
    else none)
  else k0 v
def bits_Take_s0 (t16 : List UInt8) (t17 : Int) (ok : Bool) (v_ : Int × Int) : Option ((Int × Int) ⊕ Int) := bits_Take_s0k t16 t17 ok (fun x => some (.inl x)) (fun x => some (.inr x)) v_.1 v_.2
def bits_Take_l0 (t16 : List UInt8) (t17 : Int) (ok : Bool) (v : Int) (t18 : Int) : Option Int := iter (bits_Take_s0 t16 t17 ok) n_ (v, t18)
theorem bits_Take_s0_bind {α : Type} (t16 : List UInt8) (t17 : Int) (ok : Bool) (kc : (Int × Int) → Option α) (k0 : Int → Option α) (v : Int) (t18 : Int) : bits_Take_s0k t16 t17 ok kc k0 v t18 = (bits_Take_s0 t16 t17 ok (v, t18)).bind fun s_ => alt s_ kc k0 := by
  unfold bits_Take_s0 bits_Take_s0k; simp only [bind_cond, Option.bind_assoc, alt_bind, Option.bind_some, Option.bind_none, alt_inl, alt_inr]
@[reducible] def bits_Take_k {α : Type} (k0 : (Int × Bool) → Option α) (b : List UInt8) (n : Int) : Option α :=
  bif (decide (n < 1)) then k0 (0, false)
  else bif (decide (n > 7)) then k0 (0, false)
    else ((bits_front b n)).bind fun r_1 =>
      alt r_1 (fun a_2 =>
        ((bits_Take_l0 n_ a_2 (a_2.length : Int) false 0 0)).bind fun r_3 =>
        k0 (r_3, true)) (fun b_4 =>
        k0 (0, false))
def bits_Take (b : List UInt8) (n : Int) : Option (Int × Bool) := bits_Take_k n_ (fun x => some x) b n
theorem bits_Take_bind {α : Type} (k0 : (Int × Bool) → Option α) (b : List UInt8) (n : Int) : bits_Take_k n_ k0 b n = (bits_Take n_ b n).bind k0 := by
  unfold bits_Take bits_Take_k; simp only [bind_cond, Option.bind_assoc, alt_bind, Option.bind_some, Option.bind_none, alt_inl, alt_inr]

/-! (*tenancy/msg.reader).num -/
@[reducible] def msg_reader_num_k {α : Type} (k0 : (Int × Tmsg_reader) → Option α) (k1 : Unit → Option α) (n : Int) (r : Tmsg_reader) : Option α :=
  ((bits_Take n_ r.b n)).bind fun r_1 =>
  bif (!r_1.2) then k1 ()
  else bif (cutOk n (r.b.length : Int) r.b.length) then k0 (r_1.1, (Tmsg_reader.mk (cutL r.b n (r.b.length : Int))))
    else none
def msg_reader_num (n : Int) (r : Tmsg_reader) : Option ((Int × Tmsg_reader) ⊕ Unit) := msg_reader_num_k n_ (fun x => some (.inl x)) (fun x => some (.inr x)) n r
theorem msg_reader_num_bind {α : Type} (k0 : (Int × Tmsg_reader) → Option α) (k1 : Unit → Option α) (n : Int) (r : Tmsg_reader) : msg_reader_num_k n_ k0 k1 n r = (msg_reader_num n_ n r).bind (fun s0_ => alt s0_ k0 k1) := by
  unfold msg_reader_num msg_reader_num_k; simp only [bind_cond, Option.bind_assoc, alt_bind, Option.bind_some, Option.bind_none, alt_inl, alt_inr]

/-! tenancy/bits.TakeText -/
@[reducible] def bits_TakeText_k {α : Type} (k0 : (List UInt8 × Int × Bool) → Option α) (b : List UInt8) : Option α :=
  ((bits_front b 1)).bind fun r_1 =>
  alt r_1 (fun a_2 =>
    bif (inR 0 a_2.length) then (((a_2[0]?)).bind fun y_3 =>
      bif (decide ((b.length : Int) < (wi64 ((wi64 (i8 y_3)) + 1)))) then k0 ([], 0, false)
      else bif (cutOk 1 (wi64 ((wi64 (i8 y_3)) + 1)) b.length) then k0 ((cutL b 1 (wi64 ((wi64 (i8 y_3)) + 1))), (wi64 ((wi64 (i8 y_3)) + 1)), true)
        else none)
    else none) (fun b_4 =>
    k0 ([], 0, false))
def bits_TakeText (b : List UInt8) : Option (List UInt8 × Int × Bool) := bits_TakeText_k (fun x => some x) b
theorem bits_TakeText_bind {α : Type} (k0 : (List UInt8 × Int × Bool) → Option α) (b : List UInt8) : bits_TakeText_k k0 b = (bits_TakeText b).bind k0 := by
  unfold bits_TakeText bits_TakeText_k; simp only [bind_cond, Option.bind_assoc, alt_bind, Option.bind_some, Option.bind_none, alt_inl, alt_inr]

/-! (*tenancy/msg.reader).text -/
@[reducible] def msg_reader_text_k {α : Type} (k0 : (List UInt8 × Tmsg_reader) → Option α) (k1 : Unit → Option α) (r : Tmsg_reader) : Option α :=
  ((bits_TakeText r.b)).bind fun r_1 =>
  bif (!r_1.2.2) then k1 ()
  else bif (cutOk r_1.2.1 (r.b.length : Int) r.b.length) then k0 (r_1.1, (Tmsg_reader.mk (cutL r.b r_1.2.1 (r.b.length : Int))))
    else none
def msg_reader_text (r : Tmsg_reader) : Option ((List UInt8 × Tmsg_reader) ⊕ Unit) := msg_reader_text_k (fun x => some (.inl x)) (fun x => some (.inr x)) r
theorem msg_reader_text_bind {α : Type} (k0 : (List UInt8 × Tmsg_reader) → Option α) (k1 : Unit → Option α) (r : Tmsg_reader) : msg_reader_text_k k0 k1 r = (msg_reader_text r).bind (fun s0_ => alt s0_ k0 k1) := by
  unfold msg_reader_text msg_reader_text_k; simp only [bind_cond, Option.bind_assoc, alt_bind, Option.bind_some, Option.bind_none, alt_inl, alt_inr]

/-! (*tenancy/msg.reader).tell -/
@[reducible] def msg_reader_tell_k {α : Type} (k0 : (TTell × Tmsg_reader) → Option α) (k1 : Tmsg_reader → Option α) (r : Tmsg_reader) : Option α :=
  ((msg_reader_num n_ 1 r)).bind fun r_1 =>
  alt r_1 (fun a_2 =>
    ((msg_reader_num n_ 1 a_2.2)).bind fun r_3 =>
    alt r_3 (fun a_4 =>
      ((msg_reader_num n_ 4 a_4.2)).bind fun r_5 =>
      alt r_5 (fun a_6 =>
        ((msg_reader_num n_ 4 a_6.2)).bind fun r_7 =>
        alt r_7 (fun a_8 =>
          ((msg_reader_num n_ 1 a_8.2)).bind fun r_9 =>
          alt r_9 (fun a_10 =>
            ((msg_reader_num n_ 1 a_10.2)).bind fun r_11 =>
            alt r_11 (fun a_12 =>
              ((msg_reader_num n_ 1 a_12.2)).bind fun r_13 =>
              alt r_13 (fun a_14 =>
                ((msg_reader_num n_ 4 a_14.2)).bind fun r_15 =>
                alt r_15 (fun a_16 =>
                  ((msg_reader_text a_16.2)).bind fun r_17 =>
                  alt r_17 (fun a_18 =>
                    k0 ((TTell.mk a_2.1 a_4.1 a_6.1 a_8.1 a_10.1 a_12.1 a_14.1 a_16.1 a_18.1), a_18.2)) (fun b_19 =>
                    k1 a_16.2)) (fun b_20 =>
                  k1 a_14.2)) (fun b_21 =>
                k1 a_12.2)) (fun b_22 =>
              k1 a_10.2)) (fun b_23 =>
            k1 a_8.2)) (fun b_24 =>
          k1 a_6.2)) (fun b_25 =>
        k1 a_4.2)) (fun b_26 =>
      k1 a_2.2)) (fun b_27 =>
    k1 r)
def msg_reader_tell (r : Tmsg_reader) : Option ((TTell × Tmsg_reader) ⊕ Tmsg_reader) := msg_reader_tell_k n_ (fun x => some (.inl x)) (fun x => some (.inr x)) r
theorem msg_reader_tell_bind {α : Type} (k0 : (TTell × Tmsg_reader) → Option α) (k1 : Tmsg_reader → Option α) (r : Tmsg_reader) : msg_reader_tell_k n_ k0 k1 r = (msg_reader_tell n_ r).bind (fun s0_ => alt s0_ k0 k1) := by
  unfold msg_reader_tell msg_reader_tell_k; simp only [bind_cond, Option.bind_assoc, alt_bind, Option.bind_some, Option.bind_none, alt_inl, alt_inr]

/-! tenancy/msg.from -/
@[reducible] def msg_from_k {α : Type} (k : Bool → α) (lo : Int) (hi : Int) (v : Int) : α :=
  bif (decide (lo ≤ v)) then k (decide (v ≤ hi))
  else k false
def msg_from (lo : Int) (hi : Int) (v : Int) : Bool := msg_from_k id lo hi v
theorem msg_from_bind {α : Type} (k : Bool → α) (lo : Int) (hi : Int) (v : Int) : msg_from_k k lo hi v = k (msg_from lo hi v) := by
  unfold msg_from msg_from_k; simp only [Bool.apply_cond k, id]

/-! tenancy/msg.MayTell -/
@[reducible] def msg_MayTell_k {α : Type} (k : Bool → α) (t : TTell) : α :=
  bif (!(msg_from 1 3 t.Kind)) then k false
  else bif (!(msg_from 1 3 t.To)) then k false
    else bif (!(msg_from 0 1073741824 t.Epoch)) then k false
      else bif (t.Kind == 2) then (bif (TTell.eqb t (TTell.mk t.Kind t.To t.Epoch 0 0 t.File 0 0 [])) then k (msg_from 1 6 t.File)
          else k false)
        else bif (t.Kind == 3) then k (TTell.eqb t (TTell.mk t.Kind t.To t.Epoch 0 0 0 0 0 []))
          else bif (msg_from 1 1073741824 t.Seq) then (bif (decide (t.Err ≥ 0)) then (bif (decide (t.Err ≤ 7)) then (bif (msg_from 0 6 t.File) then (bif (msg_from 0 2 t.Mode) then (bif (msg_from 0 1073741824 t.Ver) then k (decide ((t.Body.length : Int) ≤ 24))
                      else k false)
                    else k false)
                  else k false)
                else k false)
              else k false)
            else k false
def msg_MayTell (t : TTell) : Bool := msg_MayTell_k id t
theorem msg_MayTell_bind {α : Type} (k : Bool → α) (t : TTell) : msg_MayTell_k k t = k (msg_MayTell t) := by
  unfold msg_MayTell msg_MayTell_k; simp only [Bool.apply_cond k, id]

/-! tenancy/bits.Put -/
@[reducible] def bits_Put_s0k {α : Type} (v : Int) (kc : (Int × List UInt8) → Option α) (k0 : (List UInt8) → Option α) (n : Int) (b : List UInt8) : Option α :=
  bif (decide (n ≥ 0)) then (bif (decide ((wi64 (8 * n)) < 0)) then none
    else bif (decide ((b.length + 1) ≤ lim)) then kc ((wi64 (n - 1)), (b ++ [(b8 (wu8 (shrI .i64 v (wi64 (8 * n)))))]))
      else none)
  else k0 b
def bits_Put_s0 (v : Int) (v_ : Int × List UInt8) : Option ((Int × List UInt8) ⊕ (List UInt8)) := bits_Put_s0k v (fun x => some (.inl x)) (fun x => some (.inr x)) v_.1 v_.2
def bits_Put_l0 (v : Int) (n : Int) (b : List UInt8) : Option (List UInt8) := iter (bits_Put_s0 v) n_ (n, b)
theorem bits_Put_s0_bind {α : Type} (v : Int) (kc : (Int × List UInt8) → Option α) (k0 : (List UInt8) → Option α) (n : Int) (b : List UInt8) : bits_Put_s0k v kc k0 n b = (bits_Put_s0 v (n, b)).bind fun s_ => alt s_ kc k0 := by
  unfold bits_Put_s0 bits_Put_s0k; simp only [bind_cond, Option.bind_assoc, alt_bind, Option.bind_some, Option.bind_none, alt_inl, alt_inr]
@[reducible] def bits_Put_k {α : Type} (k0 : (List UInt8) → Option α) (b : List UInt8) (v : Int) (n : Int) : Option α :=
  bif (decide (n < 1)) then k0 b
  else bif (decide (n > 8)) then k0 b
    else ((bits_Put_l0 n_ v (wi64 (n - 1)) b)).bind fun r_1 =>
      k0 r_1
def bits_Put (b : List UInt8) (v : Int) (n : Int) : Option (List UInt8) := bits_Put_k n_ (fun x => some x) b v n
theorem bits_Put_bind {α : Type} (k0 : (List UInt8) → Option α) (b : List UInt8) (v : Int) (n : Int) : bits_Put_k n_ k0 b v n = (bits_Put n_ b v n).bind k0 := by
  unfold bits_Put bits_Put_k; simp only [bind_cond, Option.bind_assoc, alt_bind, Option.bind_some, Option.bind_none, alt_inl, alt_inr]

/-! tenancy/bits.Text -/
@[reducible] def bits_Text_k {α : Type} (k0 : (List UInt8) → Option α) (b : List UInt8) (s : List UInt8) : Option α :=
  bif (decide ((s.length : Int) > 255)) then k0 b
  else bif (decide ((b.length + 1) ≤ lim)) then (bif (decide (((b ++ [(b8 (wu8 (s.length : Int)))]).length + s.length) ≤ lim)) then k0 ((b ++ [(b8 (wu8 (s.length : Int)))]) ++ s)
      else none)
    else none
def bits_Text (b : List UInt8) (s : List UInt8) : Option (List UInt8) := bits_Text_k (fun x => some x) b s
theorem bits_Text_bind {α : Type} (k0 : (List UInt8) → Option α) (b : List UInt8) (s : List UInt8) : bits_Text_k k0 b s = (bits_Text b s).bind k0 := by
  unfold bits_Text bits_Text_k; simp only [bind_cond, Option.bind_assoc, alt_bind, Option.bind_some, Option.bind_none, alt_inl, alt_inr]

/-! tenancy/crc.Sum -/
@[reducible] def crc_Sum_s0k {α : Type} (t6 : List UInt8) (t7 : Int) (t8 : Int) (kc : (Int × Int) → Option α) (k0 : Int → Option α) (c : Int) (t16 : Int) : Option α :=
  bif (decide (t16 < 8)) then (bif ((band .u16 c 1) == 1) then kc ((bxor .u16 (shrI .u16 c 1) 40961), (wi64 (t16 + 1)))
    else kc ((shrI .u16 c 1), (wi64 (t16 + 1))))
  else k0 c
def crc_Sum_s0 (t6 : List UInt8) (t7 : Int) (t8 : Int) (v_ : Int × Int) : Option ((Int × Int) ⊕ Int) := crc_Sum_s0k t6 t7 t8 (fun x => some (.inl x)) (fun x => some (.inr x)) v_.1 v_.2
def crc_Sum_l0 (t6 : List UInt8) (t7 : Int) (t8 : Int) (c : Int) (t16 : Int) : Option Int := iter (crc_Sum_s0 t6 t7 t8) n_ (c, t16)
theorem crc_Sum_s0_bind {α : Type} (t6 : List UInt8) (t7 : Int) (t8 : Int) (kc : (Int × Int) → Option α) (k0 : Int → Option α) (c : Int) (t16 : Int) : crc_Sum_s0k t6 t7 t8 kc k0 c t16 = (crc_Sum_s0 t6 t7 t8 (c, t16)).bind fun s_ => alt s_ kc k0 := by
  unfold crc_Sum_s0 crc_Sum_s0k; simp only [bind_cond, Option.bind_assoc, alt_bind, Option.bind_some, Option.bind_none, alt_inl, alt_inr]
@[reducible] def crc_Sum_s1k {α : Type} (t6 : List UInt8) (t7 : Int) (kc : (Int × Int) → Option α) (k0 : Int → Option α) (c : Int) (t8 : Int) : Option α :=
  bif (decide (t8 < t7)) then (bif (inR t8 t6.length) then (((t6[t8.toNat]?)).bind fun y_1 =>
      ((crc_Sum_l0 n_ t6 t7 t8 (bxor .u16 c (wu16 (i8 y_1))) 0)).bind fun r_2 =>
      kc (r_2, (wi64 (t8 + 1))))
    else none)
  else k0 c
def crc_Sum_s1 (t6 : List UInt8) (t7 : Int) (v_ : Int × Int) : Option ((Int × Int) ⊕ Int) := crc_Sum_s1k n_ t6 t7 (fun x => some (.inl x)) (fun x => some (.inr x)) v_.1 v_.2
def crc_Sum_l1 (t6 : List UInt8) (t7 : Int) (c : Int) (t8 : Int) : Option Int := iter (crc_Sum_s1 n_ t6 t7) n_ (c, t8)
theorem crc_Sum_s1_bind {α : Type} (t6 : List UInt8) (t7 : Int) (kc : (Int × Int) → Option α) (k0 : Int → Option α) (c : Int) (t8 : Int) : crc_Sum_s1k n_ t6 t7 kc k0 c t8 = (crc_Sum_s1 n_ t6 t7 (c, t8)).bind fun s_ => alt s_ kc k0 := by
  unfold crc_Sum_s1 crc_Sum_s1k; simp only [bind_cond, Option.bind_assoc, alt_bind, Option.bind_some, Option.bind_none, alt_inl, alt_inr]
@[reducible] def crc_Sum_k {α : Type} (k0 : Int → Option α) (b : List UInt8) : Option α :=
  ((crc_Sum_l1 n_ b (b.length : Int) 0 0)).bind fun r_1 =>
  k0 r_1
def crc_Sum (b : List UInt8) : Option Int := crc_Sum_k n_ (fun x => some x) b
theorem crc_Sum_bind {α : Type} (k0 : Int → Option α) (b : List UInt8) : crc_Sum_k n_ k0 b = (crc_Sum n_ b).bind k0 := by
  unfold crc_Sum crc_Sum_k; simp only [bind_cond, Option.bind_assoc, alt_bind, Option.bind_some, Option.bind_none, alt_inl, alt_inr]

/-! tenancy/msg.sealed -/
@[reducible] def msg_sealed_k {α : Type} (k0 : (List UInt8) → Option α) (b : List UInt8) : Option α :=
  ((crc_Sum n_ b)).bind fun r_1 =>
  ((bits_Put n_ b (wi64 r_1) 2)).bind fun r_2 =>
  k0 r_2
def msg_sealed (b : List UInt8) : Option (List UInt8) := msg_sealed_k n_ (fun x => some x) b
theorem msg_sealed_bind {α : Type} (k0 : (List UInt8) → Option α) (b : List UInt8) : msg_sealed_k n_ k0 b = (msg_sealed n_ b).bind k0 := by
  unfold msg_sealed msg_sealed_k; simp only [bind_cond, Option.bind_assoc, alt_bind, Option.bind_some, Option.bind_none, alt_inl, alt_inr]

/-! tenancy/msg.PutTell -/
@[reducible] def msg_PutTell_k {α : Type} (k0 : (List UInt8) → Option α) (t : TTell) : Option α :=
  bif (!(msg_MayTell t)) then k0 ([])
  else ((bits_Put n_ [] t.Kind 1)).bind fun r_1 =>
    ((bits_Put n_ r_1 t.To 1)).bind fun r_2 =>
    ((bits_Put n_ r_2 t.Epoch 4)).bind fun r_3 =>
    ((bits_Put n_ r_3 t.Seq 4)).bind fun r_4 =>
    ((bits_Put n_ r_4 t.Err 1)).bind fun r_5 =>
    ((bits_Put n_ r_5 t.File 1)).bind fun r_6 =>
    ((bits_Put n_ r_6 t.Mode 1)).bind fun r_7 =>
    ((bits_Put n_ r_7 t.Ver 4)).bind fun r_8 =>
    ((bits_Text r_8 t.Body)).bind fun r_9 =>
    ((msg_sealed n_ r_9)).bind fun r_10 =>
    k0 r_10
def msg_PutTell (t : TTell) : Option (List UInt8) := msg_PutTell_k n_ (fun x => some x) t
theorem msg_PutTell_bind {α : Type} (k0 : (List UInt8) → Option α) (t : TTell) : msg_PutTell_k n_ k0 t = (msg_PutTell n_ t).bind k0 := by
  unfold msg_PutTell msg_PutTell_k; simp only [bind_cond, Option.bind_assoc, alt_bind, Option.bind_some, Option.bind_none, alt_inl, alt_inr]

/-! slices.Equal[[]byte,byte] -/
@[reducible] def slices_Equal_byte_s0k {α : Type} (s1 : List UInt8) (s2 : List UInt8) (t12 : Int) (kc : Int → Option α) (k0 : Unit → Option α) (k1 : Unit → Option α) (t13 : Int) : Option α :=
  bif (decide (t13 < t12)) then (bif (inR t13 s1.length) then (((s1[t13.toNat]?)).bind fun y_1 =>
      bif (inR t13 s2.length) then (((s2[t13.toNat]?)).bind fun y_2 =>
        bif ((i8 y_1) != (i8 y_2)) then k0 ()
        else kc (wi64 (t13 + 1)))
      else none)
    else none)
  else k1 ()
def slices_Equal_byte_s0 (s1 : List UInt8) (s2 : List UInt8) (t12 : Int) (v_ : Int) : Option (Int ⊕ (Unit ⊕ Unit)) := slices_Equal_byte_s0k s1 s2 t12 (fun x => some (.inl x)) (fun x => some (.inr (.inl x))) (fun x => some (.inr (.inr x))) v_
def slices_Equal_byte_l0 (s1 : List UInt8) (s2 : List UInt8) (t12 : Int) (t13 : Int) : Option (Unit ⊕ Unit) := iter (slices_Equal_byte_s0 s1 s2 t12) n_ t13
theorem slices_Equal_byte_s0_bind {α : Type} (s1 : List UInt8) (s2 : List UInt8) (t12 : Int) (kc : Int → Option α) (k0 : Unit → Option α) (k1 : Unit → Option α) (t13 : Int) : slices_Equal_byte_s0k s1 s2 t12 kc k0 k1 t13 = (slices_Equal_byte_s0 s1 s2 t12 t13).bind fun s_ => alt s_ kc (fun s0_ => alt s0_ k0 k1) := by
  unfold slices_Equal_byte_s0 slices_Equal_byte_s0k; simp only [bind_cond, Option.bind_assoc, alt_bind, Option.bind_some, Option.bind_none, alt_inl, alt_inr]
@[reducible] def slices_Equal_byte_k {α : Type} (k0 : Bool → Option α) (s1 : List UInt8) (s2 : List UInt8) : Option α :=
  bif ((s1.length : Int) != (s2.length : Int)) then k0 false
  else ((slices_Equal_byte_l0 n_ s1 s2 (s1.length : Int) 0)).bind fun r_1 =>
    alt r_1 (fun a_2 =>
      k0 false) (fun b_3 =>
      k0 true)
def slices_Equal_byte (s1 : List UInt8) (s2 : List UInt8) : Option Bool := slices_Equal_byte_k n_ (fun x => some x) s1 s2
theorem slices_Equal_byte_bind {α : Type} (k0 : Bool → Option α) (s1 : List UInt8) (s2 : List UInt8) : slices_Equal_byte_k n_ k0 s1 s2 = (slices_Equal_byte n_ s1 s2).bind k0 := by
  unfold slices_Equal_byte slices_Equal_byte_k; simp only [bind_cond, Option.bind_assoc, alt_bind, Option.bind_some, Option.bind_none, alt_inl, alt_inr]

/-! tenancy/msg.takes[tenancy/api.Tell] -/
@[reducible] def msg_takes_Tell_k {α : Type} (k0 : (TTell × Bool) → Option α) (b : List UInt8) : Option α :=
  ((msg_reader_tell n_ (Tmsg_reader.mk b))).bind fun r_1 =>
  alt r_1 (fun a_2 =>
    bif ((b.length : Int) == 0) then k0 ((TTell.mk 0 0 0 0 0 0 0 0 []), false)
    else ((msg_PutTell n_ a_2.1)).bind fun r_3 =>
      ((slices_Equal_byte n_ r_3 b)).bind fun r_4 =>
      bif (!r_4) then k0 ((TTell.mk 0 0 0 0 0 0 0 0 []), false)
      else k0 (a_2.1, true)) (fun b_5 =>
    k0 ((TTell.mk 0 0 0 0 0 0 0 0 []), false))
def msg_takes_Tell (b : List UInt8) : Option (TTell × Bool) := msg_takes_Tell_k n_ (fun x => some x) b
theorem msg_takes_Tell_bind {α : Type} (k0 : (TTell × Bool) → Option α) (b : List UInt8) : msg_takes_Tell_k n_ k0 b = (msg_takes_Tell n_ b).bind k0 := by
  unfold msg_takes_Tell msg_takes_Tell_k; simp only [bind_cond, Option.bind_assoc, alt_bind, Option.bind_some, Option.bind_none, alt_inl, alt_inr]

/-! tenancy/msg.TakeTell -/
@[reducible] def msg_TakeTell_k {α : Type} (k0 : (TTell × Bool) → Option α) (b : List UInt8) : Option α :=
  ((msg_takes_Tell n_ b)).bind fun r_1 =>
  k0 (r_1.1, r_1.2)
def msg_TakeTell (b : List UInt8) : Option (TTell × Bool) := msg_TakeTell_k n_ (fun x => some x) b
theorem msg_TakeTell_bind {α : Type} (k0 : (TTell × Bool) → Option α) (b : List UInt8) : msg_TakeTell_k n_ k0 b = (msg_TakeTell n_ b).bind k0 := by
  unfold msg_TakeTell msg_TakeTell_k; simp only [bind_cond, Option.bind_assoc, alt_bind, Option.bind_some, Option.bind_none, alt_inl, alt_inr]

/-! (*tenancy/client.work).epoch -/
@[reducible] def client_work_epoch_s0k {α : Type} (t25 : Int) (t : TTell) (kc : (Int × Tclient_work) → Option α) (k0 : Tclient_work → Option α) (t26 : Int) (w : Tclient_work) : Option α :=
  bif (decide (t26 < t25)) then (bif (inR t26 w.Client.Files.length) then (((w.Client.Files[t26.toNat]?)).bind fun y_1 =>
      bif (inR t26 w.Client.Files.length) then (((w.Client.Files[t26.toNat]?)).bind fun y_2 =>
        kc ((wi64 (t26 + 1)), (Tclient_work.mk (TClient.mk w.Client.ID w.Client.Now w.Client.Epoch w.Client.Seq (w.Client.Files.set t26.toNat (cache_Reset y_1)) w.Client.Names w.Client.Out w.Client.Bad w.Client.Hits w.Client.Asks) [])))
      else none)
    else none)
  else k0 (Tclient_work.mk w.Client [])
def client_work_epoch_s0 (t25 : Int) (t : TTell) (v_ : Int × Tclient_work) : Option ((Int × Tclient_work) ⊕ Tclient_work) := client_work_epoch_s0k t25 t (fun x => some (.inl x)) (fun x => some (.inr x)) v_.1 v_.2
def client_work_epoch_l0 (t25 : Int) (t : TTell) (t26 : Int) (w : Tclient_work) : Option Tclient_work := iter (client_work_epoch_s0 t25 t) n_ (t26, w)
theorem client_work_epoch_s0_bind {α : Type} (t25 : Int) (t : TTell) (kc : (Int × Tclient_work) → Option α) (k0 : Tclient_work → Option α) (t26 : Int) (w : Tclient_work) : client_work_epoch_s0k t25 t kc k0 t26 w = (client_work_epoch_s0 t25 t (t26, w)).bind fun s_ => alt s_ kc k0 := by
  unfold client_work_epoch_s0 client_work_epoch_s0k; simp only [bind_cond, Option.bind_assoc, alt_bind, Option.bind_some, Option.bind_none, alt_inl, alt_inr]
@[reducible] def client_work_epoch_k {α : Type} (k0 : Tclient_work → Option α) (k1 : Tclient_work → Option α) (t : TTell) (w : Tclient_work) : Option α :=
  bif (decide (t.Epoch ≤ w.Client.Epoch)) then k0 (Tclient_work.mk w.Client [])
  else ((client_work_epoch_l0 n_ (w.Client.Files.length : Int) t 0 (Tclient_work.mk (TClient.mk w.Client.ID w.Client.Now t.Epoch w.Client.Seq w.Client.Files w.Client.Names w.Client.Out w.Client.Bad w.Client.Hits w.Client.Asks) []))).bind fun r_1 =>
    bif r_1.Client.Out.Is then k1 (client_work_again (Tclient_work.mk (TClient.mk r_1.Client.ID r_1.Client.Now r_1.Client.Epoch r_1.Client.Seq r_1.Client.Files r_1.Client.Names (TOut.mk r_1.Client.Out.Is (TAsk.mk r_1.Client.Out.Ask.Kind r_1.Client.Out.Ask.From t.Epoch r_1.Client.Out.Ask.Seq r_1.Client.Out.Ask.Name r_1.Client.Out.Ask.File r_1.Client.Out.Ask.Mode r_1.Client.Out.Ask.Writes) r_1.Client.Out.First r_1.Client.Out.Last) r_1.Client.Bad r_1.Client.Hits r_1.Client.Asks) []))
    else k0 (Tclient_work.mk r_1.Client [])
def client_work_epoch (t : TTell) (w : Tclient_work) : Option (Tclient_work ⊕ Tclient_work) := client_work_epoch_k n_ (fun x => some (.inl x)) (fun x => some (.inr x)) t w
theorem client_work_epoch_bind {α : Type} (k0 : Tclient_work → Option α) (k1 : Tclient_work → Option α) (t : TTell) (w : Tclient_work) : client_work_epoch_k n_ k0 k1 t w = (client_work_epoch n_ t w).bind (fun s0_ => alt s0_ k0 k1) := by
  unfold client_work_epoch client_work_epoch_k; simp only [bind_cond, Option.bind_assoc, alt_bind, Option.bind_some, Option.bind_none, alt_inl, alt_inr]

/-! (*tenancy/client.work).called -/
@[reducible] def client_work_called_k {α : Type} (k0 : Tclient_work → Option α) (k1 : Tclient_work → Option α) (k2 : Tclient_work → Option α) (k3 : Tclient_work → Option α) (t : TTell) (w : Tclient_work) : Option α :=
  ((client_work_file t.File (Tclient_work.mk w.Client []))).bind fun r_1 =>
  alt r_1 (fun a_2 =>
    bif (t.Epoch != w.Client.Epoch) then k0 (Tclient_work.mk w.Client [])
    else ((w.Client.Files[a_2]?)).bind fun y_3 =>
      bif (y_3.Mode == 0) then k0 (Tclient_work.mk w.Client [])
      else ((w.Client.Files[a_2]?)).bind fun y_4 =>
        bif (!w.Client.Out.Is) then (((client_work_gives t.File (Tclient_work.mk (TClient.mk w.Client.ID w.Client.Now w.Client.Epoch w.Client.Seq (w.Client.Files.set a_2 (TCache.mk y_4.Mode y_4.Until y_4.Ver y_4.Body y_4.Dirty y_4.Sent true y_4.Lost)) w.Client.Names w.Client.Out w.Client.Bad w.Client.Hits w.Client.Asks) []))).bind fun r_5 =>
          alt r_5 (fun a_6 =>
            k2 a_6) (fun b_7 =>
            k3 b_7))
        else k0 (Tclient_work.mk (TClient.mk w.Client.ID w.Client.Now w.Client.Epoch w.Client.Seq (w.Client.Files.set a_2 (TCache.mk y_4.Mode y_4.Until y_4.Ver y_4.Body y_4.Dirty y_4.Sent true y_4.Lost)) w.Client.Names w.Client.Out w.Client.Bad w.Client.Hits w.Client.Asks) [])) (fun b_8 =>
    bif (t.Epoch != w.Client.Epoch) then k1 (Tclient_work.mk w.Client [])
    else k1 (Tclient_work.mk w.Client []))
def client_work_called (t : TTell) (w : Tclient_work) : Option (Tclient_work ⊕ (Tclient_work ⊕ (Tclient_work ⊕ Tclient_work))) := client_work_called_k (fun x => some (.inl x)) (fun x => some (.inr (.inl x))) (fun x => some (.inr (.inr (.inl x)))) (fun x => some (.inr (.inr (.inr x)))) t w
theorem client_work_called_bind {α : Type} (k0 : Tclient_work → Option α) (k1 : Tclient_work → Option α) (k2 : Tclient_work → Option α) (k3 : Tclient_work → Option α) (t : TTell) (w : Tclient_work) : client_work_called_k k0 k1 k2 k3 t w = (client_work_called t w).bind (fun s0_ => alt s0_ k0 (fun s1_ => alt s1_ k1 (fun s2_ => alt s2_ k2 k3))) := by
  unfold client_work_called client_work_called_k; simp only [bind_cond, Option.bind_assoc, alt_bind, Option.bind_some, Option.bind_none, alt_inl, alt_inr]

/-! (*tenancy/client.work).file -/
@[reducible] def client_work_file_3_k {α : Type} (k0 : Nat → Option α) (k1 : Unit → Option α) (n : Int) (w : Tclient_work) : Option α :=
  bif (decide (n < 1)) then k1 ()
  else bif (decide (n > (w.Client.Files.length : Int))) then k1 ()
    else bif (inR (wi64 (n - 1)) w.Client.Files.length) then k0 ((wi64 (n - 1)).toNat)
      else none
def client_work_file_3 (n : Int) (w : Tclient_work) : Option (Nat ⊕ Unit) := client_work_file_3_k (fun x => some (.inl x)) (fun x => some (.inr x)) n w
theorem client_work_file_3_bind {α : Type} (k0 : Nat → Option α) (k1 : Unit → Option α) (n : Int) (w : Tclient_work) : client_work_file_3_k k0 k1 n w = (client_work_file_3 n w).bind (fun s0_ => alt s0_ k0 k1) := by
  unfold client_work_file_3 client_work_file_3_k; simp only [bind_cond, Option.bind_assoc, alt_bind, Option.bind_some, Option.bind_none, alt_inl, alt_inr]

/-! (*tenancy/client.work).named -/
@[reducible] def client_work_named_s0k {α : Type} (name : List UInt8) (n : Int) (t25 : Int) (kc : (Int × Tclient_work) → Option α) (k0 : Tclient_work → Option α) (t26 : Int) (w : Tclient_work) : Option α :=
  bif (decide (t26 < t25)) then (bif (inR t26 w.Client.Names.length) then (((w.Client.Names[t26.toNat]?)).bind fun y_1 =>
      bif (y_1 == name) then (bif (inR t26 w.Client.Names.length) then (((w.Client.Names[t26.toNat]?)).bind fun y_2 =>
          kc ((wi64 (t26 + 1)), (Tclient_work.mk (TClient.mk w.Client.ID w.Client.Now w.Client.Epoch w.Client.Seq w.Client.Files (w.Client.Names.set t26.toNat []) (TOut.mk w.Client.Out.Is (TAsk.mk w.Client.Out.Ask.Kind w.Client.Out.Ask.From w.Client.Out.Ask.Epoch w.Client.Out.Ask.Seq w.Client.Out.Ask.Name w.Client.Out.Ask.File w.Client.Out.Ask.Mode []) w.Client.Out.First w.Client.Out.Last) w.Client.Bad w.Client.Hits w.Client.Asks) [])))
        else none)
      else kc ((wi64 (t26 + 1)), (Tclient_work.mk (TClient.mk w.Client.ID w.Client.Now w.Client.Epoch w.Client.Seq w.Client.Files w.Client.Names (TOut.mk w.Client.Out.Is (TAsk.mk w.Client.Out.Ask.Kind w.Client.Out.Ask.From w.Client.Out.Ask.Epoch w.Client.Out.Ask.Seq w.Client.Out.Ask.Name w.Client.Out.Ask.File w.Client.Out.Ask.Mode []) w.Client.Out.First w.Client.Out.Last) w.Client.Bad w.Client.Hits w.Client.Asks) [])))
    else none)
  else k0 (Tclient_work.mk (TClient.mk w.Client.ID w.Client.Now w.Client.Epoch w.Client.Seq w.Client.Files w.Client.Names (TOut.mk w.Client.Out.Is (TAsk.mk w.Client.Out.Ask.Kind w.Client.Out.Ask.From w.Client.Out.Ask.Epoch w.Client.Out.Ask.Seq w.Client.Out.Ask.Name w.Client.Out.Ask.File w.Client.Out.Ask.Mode []) w.Client.Out.First w.Client.Out.Last) w.Client.Bad w.Client.Hits w.Client.Asks) [])
def client_work_named_s0 (name : List UInt8) (n : Int) (t25 : Int) (v_ : Int × Tclient_work) : Option ((Int × Tclient_work) ⊕ Tclient_work) := client_work_named_s0k name n t25 (fun x => some (.inl x)) (fun x => some (.inr x)) v_.1 v_.2
def client_work_named_l0 (name : List UInt8) (n : Int) (t25 : Int) (t26 : Int) (w : Tclient_work) : Option Tclient_work := iter (client_work_named_s0 name n t25) n_ (t26, w)
theorem client_work_named_s0_bind {α : Type} (name : List UInt8) (n : Int) (t25 : Int) (kc : (Int × Tclient_work) → Option α) (k0 : Tclient_work → Option α) (t26 : Int) (w : Tclient_work) : client_work_named_s0k name n t25 kc k0 t26 w = (client_work_named_s0 name n t25 (t26, w)).bind fun s_ => alt s_ kc k0 := by
  unfold client_work_named_s0 client_work_named_s0k; simp only [bind_cond, Option.bind_assoc, alt_bind, Option.bind_some, Option.bind_none, alt_inl, alt_inr]
@[reducible] def client_work_named_k {α : Type} (k0 : Tclient_work → Option α) (name : List UInt8) (n : Int) (w : Tclient_work) : Option α :=
  bif (decide (n < 1)) then k0 (Tclient_work.mk (TClient.mk w.Client.ID w.Client.Now w.Client.Epoch w.Client.Seq w.Client.Files w.Client.Names (TOut.mk w.Client.Out.Is (TAsk.mk w.Client.Out.Ask.Kind w.Client.Out.Ask.From w.Client.Out.Ask.Epoch w.Client.Out.Ask.Seq w.Client.Out.Ask.Name w.Client.Out.Ask.File w.Client.Out.Ask.Mode []) w.Client.Out.First w.Client.Out.Last) w.Client.Bad w.Client.Hits w.Client.Asks) [])
  else bif (decide (n > (w.Client.Names.length : Int))) then k0 (Tclient_work.mk (TClient.mk w.Client.ID w.Client.Now w.Client.Epoch w.Client.Seq w.Client.Files w.Client.Names (TOut.mk w.Client.Out.Is (TAsk.mk w.Client.Out.Ask.Kind w.Client.Out.Ask.From w.Client.Out.Ask.Epoch w.Client.Out.Ask.Seq w.Client.Out.Ask.Name w.Client.Out.Ask.File w.Client.Out.Ask.Mode []) w.Client.Out.First w.Client.Out.Last) w.Client.Bad w.Client.Hits w.Client.Asks) [])
    else ((client_work_named_l0 n_ name n (w.Client.Names.length : Int) 0 (Tclient_work.mk (TClient.mk w.Client.ID w.Client.Now w.Client.Epoch w.Client.Seq w.Client.Files w.Client.Names (TOut.mk w.Client.Out.Is (TAsk.mk w.Client.Out.Ask.Kind w.Client.Out.Ask.From w.Client.Out.Ask.Epoch w.Client.Out.Ask.Seq w.Client.Out.Ask.Name w.Client.Out.Ask.File w.Client.Out.Ask.Mode []) w.Client.Out.First w.Client.Out.Last) w.Client.Bad w.Client.Hits w.Client.Asks) []))).bind fun r_1 =>
      bif (inR (wi64 (n - 1)) r_1.Client.Names.length) then (((r_1.Client.Names[(wi64 (n - 1)).toNat]?)).bind fun y_2 =>
        k0 (Tclient_work.mk (TClient.mk r_1.Client.ID r_1.Client.Now r_1.Client.Epoch r_1.Client.Seq r_1.Client.Files (r_1.Client.Names.set (wi64 (n - 1)).toNat name) (TOut.mk r_1.Client.Out.Is (TAsk.mk r_1.Client.Out.Ask.Kind r_1.Client.Out.Ask.From r_1.Client.Out.Ask.Epoch r_1.Client.Out.Ask.Seq r_1.Client.Out.Ask.Name r_1.Client.Out.Ask.File r_1.Client.Out.Ask.Mode []) r_1.Client.Out.First r_1.Client.Out.Last) r_1.Client.Bad r_1.Client.Hits r_1.Client.Asks) []))
      else none
def client_work_named (name : List UInt8) (n : Int) (w : Tclient_work) : Option Tclient_work := client_work_named_k n_ (fun x => some x) name n w
theorem client_work_named_bind {α : Type} (k0 : Tclient_work → Option α) (name : List UInt8) (n : Int) (w : Tclient_work) : client_work_named_k n_ k0 name n w = (client_work_named n_ name n w).bind k0 := by
  unfold client_work_named client_work_named_k; simp only [bind_cond, Option.bind_assoc, alt_bind, Option.bind_some, Option.bind_none, alt_inl, alt_inr]

/-! tenancy/clock.within -/
@[reducible] def clock_within_k {α : Type} (k0 : Unit → Option α) (k1 : Unit → Option α) (v : Int) (most : Int) : Option α :=
  bif (decide (v < 0)) then k1 ()
  else bif (decide (v > most)) then k1 ()
    else k0 ()
def clock_within (v : Int) (most : Int) : Option (Unit ⊕ Unit) := clock_within_k (fun x => some (.inl x)) (fun x => some (.inr x)) v most
theorem clock_within_bind {α : Type} (k0 : Unit → Option α) (k1 : Unit → Option α) (v : Int) (most : Int) : clock_within_k k0 k1 v most = (clock_within v most).bind (fun s0_ => alt s0_ k0 k1) := by
  unfold clock_within clock_within_k; simp only [bind_cond, Option.bind_assoc, alt_bind, Option.bind_some, Option.bind_none, alt_inl, alt_inr]

/-! tenancy/clock.Short -/
@[reducible] def clock_Short_k {α : Type} (k0 : Int → Option α) (term : Int) (eps : Int) : Option α :=
  ((clock_within term 1099511627776)).bind fun r_1 =>
  alt r_1 (fun a_2 =>
    ((clock_within eps 500)).bind fun r_3 =>
    alt r_3 (fun a_4 =>
      bif ((wi64 (1000 + eps)) == 0) then none
      else k0 (wi64 ((wi64 (term * (wi64 (1000 - eps)))).tdiv (wi64 (1000 + eps))))) (fun b_5 =>
      k0 0)) (fun b_6 =>
    k0 0)
def clock_Short (term : Int) (eps : Int) : Option Int := clock_Short_k (fun x => some x) term eps
theorem clock_Short_bind {α : Type} (k0 : Int → Option α) (term : Int) (eps : Int) : clock_Short_k k0 term eps = (clock_Short term eps).bind k0 := by
  unfold clock_Short clock_Short_k; simp only [bind_cond, Option.bind_assoc, alt_bind, Option.bind_some, Option.bind_none, alt_inl, alt_inr]

/-! tenancy/clock.Add -/
@[reducible] def clock_Add_k {α : Type} (k : Int → α) (a : Int) (b : Int) : α :=
  bif (decide (a > 0)) then (bif (decide (b > (wi64 (9223372036854775807 - a)))) then k 9223372036854775807
    else k (wi64 (a + b)))
  else k (wi64 (a + b))
def clock_Add (a : Int) (b : Int) : Int := clock_Add_k id a b
theorem clock_Add_bind {α : Type} (k : Int → α) (a : Int) (b : Int) : clock_Add_k k a b = k (clock_Add a b) := by
  unfold clock_Add clock_Add_k; simp only [Bool.apply_cond k, id]

/-! tenancy/cache.Let -/
@[reducible] def cache_Let_k {α : Type} (k : TCache → α) (c : TCache) (mode : Int) (until_ : Int) (ver : Int) (body : List UInt8) : α :=
  k (TCache.mk mode until_ ver body c.Dirty c.Sent false c.Lost)
def cache_Let (c : TCache) (mode : Int) (until_ : Int) (ver : Int) (body : List UInt8) : TCache := cache_Let_k id c mode until_ ver body
theorem cache_Let_bind {α : Type} (k : TCache → α) (c : TCache) (mode : Int) (until_ : Int) (ver : Int) (body : List UInt8) : cache_Let_k k c mode until_ ver body = k (cache_Let c mode until_ ver body) := by
  unfold cache_Let cache_Let_k; simp only [Bool.apply_cond k, id]

/-! tenancy/cache.Done -/
@[reducible] def cache_Done_k {α : Type} (k0 : TCache → Option α) (c : TCache) (ver : Int) : Option α :=
  bif (c.Mode != 2) then k0 c
  else bif (cutOk 0 (imax (imin c.Sent (c.Dirty.length : Int)) 0) c.Dirty.length) then (((file_All n_ c.Body (cutL c.Dirty 0 (imax (imin c.Sent (c.Dirty.length : Int)) 0)))).bind fun r_1 =>
      bif (cutOk (imax (imin c.Sent (c.Dirty.length : Int)) 0) (c.Dirty.length : Int) c.Dirty.length) then k0 (TCache.mk c.Mode c.Until ver r_1 (cutL c.Dirty (imax (imin c.Sent (c.Dirty.length : Int)) 0) (c.Dirty.length : Int)) 0 c.Called c.Lost)
      else none)
    else none
def cache_Done (c : TCache) (ver : Int) : Option TCache := cache_Done_k n_ (fun x => some x) c ver
theorem cache_Done_bind {α : Type} (k0 : TCache → Option α) (c : TCache) (ver : Int) : cache_Done_k n_ k0 c ver = (cache_Done n_ c ver).bind k0 := by
  unfold cache_Done cache_Done_k; simp only [bind_cond, Option.bind_assoc, alt_bind, Option.bind_some, Option.bind_none, alt_inl, alt_inr]

/-! (*tenancy/client.work).named -/
@[reducible] def client_work_named_2_s0k {α : Type} (name : List UInt8) (n : Int) (t25 : Int) (kc : (Int × Tclient_work) → Option α) (k0 : Tclient_work → Option α) (t26 : Int) (w : Tclient_work) : Option α :=
  bif (decide (t26 < t25)) then (bif (inR t26 w.Client.Names.length) then (((w.Client.Names[t26.toNat]?)).bind fun y_1 =>
      bif (y_1 == name) then (bif (inR t26 w.Client.Names.length) then (((w.Client.Names[t26.toNat]?)).bind fun y_2 =>
          kc ((wi64 (t26 + 1)), (Tclient_work.mk (TClient.mk w.Client.ID w.Client.Now w.Client.Epoch w.Client.Seq w.Client.Files (w.Client.Names.set t26.toNat []) (TOut.mk w.Client.Out.Is (TAsk.mk w.Client.Out.Ask.Kind w.Client.Out.Ask.From w.Client.Out.Ask.Epoch w.Client.Out.Ask.Seq w.Client.Out.Ask.Name w.Client.Out.Ask.File w.Client.Out.Ask.Mode []) w.Client.Out.First w.Client.Out.Last) w.Client.Bad w.Client.Hits w.Client.Asks) [])))
        else none)
      else kc ((wi64 (t26 + 1)), (Tclient_work.mk (TClient.mk w.Client.ID w.Client.Now w.Client.Epoch w.Client.Seq w.Client.Files w.Client.Names (TOut.mk w.Client.Out.Is (TAsk.mk w.Client.Out.Ask.Kind w.Client.Out.Ask.From w.Client.Out.Ask.Epoch w.Client.Out.Ask.Seq w.Client.Out.Ask.Name w.Client.Out.Ask.File w.Client.Out.Ask.Mode []) w.Client.Out.First w.Client.Out.Last) w.Client.Bad w.Client.Hits w.Client.Asks) [])))
    else none)
  else k0 (Tclient_work.mk (TClient.mk w.Client.ID w.Client.Now w.Client.Epoch w.Client.Seq w.Client.Files w.Client.Names (TOut.mk w.Client.Out.Is (TAsk.mk w.Client.Out.Ask.Kind w.Client.Out.Ask.From w.Client.Out.Ask.Epoch w.Client.Out.Ask.Seq w.Client.Out.Ask.Name w.Client.Out.Ask.File w.Client.Out.Ask.Mode []) w.Client.Out.First w.Client.Out.Last) w.Client.Bad w.Client.Hits w.Client.Asks) [])
def client_work_named_2_s0 (name : List UInt8) (n : Int) (t25 : Int) (v_ : Int × Tclient_work) : Option ((Int × Tclient_work) ⊕ Tclient_work) := client_work_named_2_s0k name n t25 (fun x => some (.inl x)) (fun x => some (.inr x)) v_.1 v_.2
def client_work_named_2_l0 (name : List UInt8) (n : Int) (t25 : Int) (t26 : Int) (w : Tclient_work) : Option Tclient_work := iter (client_work_named_2_s0 name n t25) n_ (t26, w)
theorem client_work_named_2_s0_bind {α : Type} (name : List UInt8) (n : Int) (t25 : Int) (kc : (Int × Tclient_work) → Option α) (k0 : Tclient_work → Option α) (t26 : Int) (w : Tclient_work) : client_work_named_2_s0k name n t25 kc k0 t26 w = (client_work_named_2_s0 name n t25 (t26, w)).bind fun s_ => alt s_ kc k0 := by
  unfold client_work_named_2_s0 client_work_named_2_s0k; simp only [bind_cond, Option.bind_assoc, alt_bind, Option.bind_some, Option.bind_none, alt_inl, alt_inr]
@[reducible] def client_work_named_2_k {α : Type} (k0 : Tclient_work → Option α) (name : List UInt8) (n : Int) (w : Tclient_work) : Option α :=
  bif (decide (n < 1)) then k0 (Tclient_work.mk (TClient.mk w.Client.ID w.Client.Now w.Client.Epoch w.Client.Seq w.Client.Files w.Client.Names (TOut.mk w.Client.Out.Is (TAsk.mk w.Client.Out.Ask.Kind w.Client.Out.Ask.From w.Client.Out.Ask.Epoch w.Client.Out.Ask.Seq w.Client.Out.Ask.Name w.Client.Out.Ask.File w.Client.Out.Ask.Mode []) w.Client.Out.First w.Client.Out.Last) w.Client.Bad w.Client.Hits w.Client.Asks) [])
  else bif (decide (n > (w.Client.Names.length : Int))) then k0 (Tclient_work.mk (TClient.mk w.Client.ID w.Client.Now w.Client.Epoch w.Client.Seq w.Client.Files w.Client.Names (TOut.mk w.Client.Out.Is (TAsk.mk w.Client.Out.Ask.Kind w.Client.Out.Ask.From w.Client.Out.Ask.Epoch w.Client.Out.Ask.Seq w.Client.Out.Ask.Name w.Client.Out.Ask.File w.Client.Out.Ask.Mode []) w.Client.Out.First w.Client.Out.Last) w.Client.Bad w.Client.Hits w.Client.Asks) [])
    else ((client_work_named_2_l0 n_ name n (w.Client.Names.length : Int) 0 (Tclient_work.mk (TClient.mk w.Client.ID w.Client.Now w.Client.Epoch w.Client.Seq w.Client.Files w.Client.Names (TOut.mk w.Client.Out.Is (TAsk.mk w.Client.Out.Ask.Kind w.Client.Out.Ask.From w.Client.Out.Ask.Epoch w.Client.Out.Ask.Seq w.Client.Out.Ask.Name w.Client.Out.Ask.File w.Client.Out.Ask.Mode []) w.Client.Out.First w.Client.Out.Last) w.Client.Bad w.Client.Hits w.Client.Asks) []))).bind fun r_1 =>
      bif (inR (wi64 (n - 1)) r_1.Client.Names.length) then (((r_1.Client.Names[(wi64 (n - 1)).toNat]?)).bind fun y_2 =>
        k0 (Tclient_work.mk (TClient.mk r_1.Client.ID r_1.Client.Now r_1.Client.Epoch r_1.Client.Seq r_1.Client.Files (r_1.Client.Names.set (wi64 (n - 1)).toNat name) (TOut.mk r_1.Client.Out.Is (TAsk.mk r_1.Client.Out.Ask.Kind r_1.Client.Out.Ask.From r_1.Client.Out.Ask.Epoch r_1.Client.Out.Ask.Seq r_1.Client.Out.Ask.Name r_1.Client.Out.Ask.File r_1.Client.Out.Ask.Mode []) r_1.Client.Out.First r_1.Client.Out.Last) r_1.Client.Bad r_1.Client.Hits r_1.Client.Asks) []))
      else none
def client_work_named_2 (name : List UInt8) (n : Int) (w : Tclient_work) : Option Tclient_work := client_work_named_2_k n_ (fun x => some x) name n w
theorem client_work_named_2_bind {α : Type} (k0 : Tclient_work → Option α) (name : List UInt8) (n : Int) (w : Tclient_work) : client_work_named_2_k n_ k0 name n w = (client_work_named_2 n_ name n w).bind k0 := by
  unfold client_work_named_2 client_work_named_2_k; simp only [bind_cond, Option.bind_assoc, alt_bind, Option.bind_some, Option.bind_none, alt_inl, alt_inr]

/-! (*tenancy/client.work).done -/
@[reducible] def client_work_done_k {α : Type} (k0 : Tclient_work → Option α) (k1 : Tclient_work → Option α) (t : TTell) (w : Tclient_work) : Option α :=
  bif (t.Epoch != w.Client.Epoch) then k1 (Tclient_work.mk w.Client [])
  else bif (!w.Client.Out.Is) then k1 (Tclient_work.mk w.Client [])
    else bif (t.Seq != w.Client.Out.Ask.Seq) then k1 (Tclient_work.mk w.Client [])
      else ((client_work_file_3 w.Client.Out.Ask.File (Tclient_work.mk (TClient.mk w.Client.ID w.Client.Now w.Client.Epoch w.Client.Seq w.Client.Files w.Client.Names (TOut.mk false (TAsk.mk 0 0 0 0 [] 0 0 []) 0 0) w.Client.Bad w.Client.Hits w.Client.Asks) []))).bind fun r_1 =>
        alt r_1 (fun a_2 =>
          bif (w.Client.Out.Ask.Kind == 1) then (bif (t.Err == 0) then (((client_work_named n_ w.Client.Out.Ask.Name t.File (Tclient_work.mk (TClient.mk w.Client.ID w.Client.Now w.Client.Epoch w.Client.Seq w.Client.Files w.Client.Names (TOut.mk false (TAsk.mk 0 0 0 0 [] 0 0 []) 0 0) w.Client.Bad w.Client.Hits w.Client.Asks) []))).bind fun r_3 =>
              k0 (Tclient_work.mk (TClient.mk r_3.Client.ID r_3.Client.Now r_3.Client.Epoch r_3.Client.Seq r_3.Client.Files r_3.Client.Names (TOut.mk r_3.Client.Out.Is (TAsk.mk r_3.Client.Out.Ask.Kind r_3.Client.Out.Ask.From r_3.Client.Out.Ask.Epoch r_3.Client.Out.Ask.Seq r_3.Client.Out.Ask.Name r_3.Client.Out.Ask.File r_3.Client.Out.Ask.Mode []) r_3.Client.Out.First r_3.Client.Out.Last) r_3.Client.Bad r_3.Client.Hits r_3.Client.Asks) []))
            else k0 (Tclient_work.mk (TClient.mk w.Client.ID w.Client.Now w.Client.Epoch w.Client.Seq w.Client.Files w.Client.Names (TOut.mk false (TAsk.mk 0 0 0 0 [] 0 0 []) 0 0) w.Client.Bad w.Client.Hits w.Client.Asks) []))
          else bif (w.Client.Out.Ask.Kind == 2) then (((clock_Short 60 100)).bind fun r_4 =>
              bif (t.Err == 0) then (bif (decide (w.Client.Now < (clock_Add w.Client.Out.First r_4))) then (bif (t.Mode != 0) then (((w.Client.Files[a_2]?)).bind fun y_5 =>
                    ((w.Client.Files[a_2]?)).bind fun y_6 =>
                    k0 (Tclient_work.mk (TClient.mk w.Client.ID w.Client.Now w.Client.Epoch w.Client.Seq (w.Client.Files.set a_2 (cache_Let y_5 t.Mode (clock_Add w.Client.Out.First r_4) t.Ver t.Body)) w.Client.Names (TOut.mk false (TAsk.mk 0 0 0 0 [] 0 0 []) 0 0) w.Client.Bad w.Client.Hits w.Client.Asks) []))
                  else k0 (Tclient_work.mk (TClient.mk w.Client.ID w.Client.Now w.Client.Epoch w.Client.Seq w.Client.Files w.Client.Names (TOut.mk false (TAsk.mk 0 0 0 0 [] 0 0 []) 0 0) w.Client.Bad w.Client.Hits w.Client.Asks) []))
                else k0 (Tclient_work.mk (TClient.mk w.Client.ID w.Client.Now w.Client.Epoch w.Client.Seq w.Client.Files w.Client.Names (TOut.mk false (TAsk.mk 0 0 0 0 [] 0 0 []) 0 0) w.Client.Bad w.Client.Hits w.Client.Asks) []))
              else k0 (Tclient_work.mk (TClient.mk w.Client.ID w.Client.Now w.Client.Epoch w.Client.Seq w.Client.Files w.Client.Names (TOut.mk false (TAsk.mk 0 0 0 0 [] 0 0 []) 0 0) w.Client.Bad w.Client.Hits w.Client.Asks) []))
            else bif (w.Client.Out.Ask.Kind == 3) then (bif (t.Err == 0) then (((w.Client.Files[a_2]?)).bind fun y_7 =>
                  ((cache_Done n_ y_7 t.Ver)).bind fun r_8 =>
                  ((w.Client.Files[a_2]?)).bind fun y_9 =>
                  k0 (Tclient_work.mk (TClient.mk w.Client.ID w.Client.Now w.Client.Epoch w.Client.Seq (w.Client.Files.set a_2 r_8) w.Client.Names (TOut.mk false (TAsk.mk 0 0 0 0 [] 0 0 []) 0 0) w.Client.Bad w.Client.Hits w.Client.Asks) []))
                else ((w.Client.Files[a_2]?)).bind fun y_10 =>
                  ((w.Client.Files[a_2]?)).bind fun y_11 =>
                  k0 (Tclient_work.mk (TClient.mk w.Client.ID w.Client.Now w.Client.Epoch w.Client.Seq (w.Client.Files.set a_2 (cache_Reset y_10)) w.Client.Names (TOut.mk false (TAsk.mk 0 0 0 0 [] 0 0 []) 0 0) w.Client.Bad w.Client.Hits w.Client.Asks) []))
              else bif (w.Client.Out.Ask.Kind == 4) then (((w.Client.Files[a_2]?)).bind fun y_12 =>
                  bif y_12.Lost then (((w.Client.Files[a_2]?)).bind fun y_13 =>
                    k0 (Tclient_work.mk (TClient.mk w.Client.ID w.Client.Now w.Client.Epoch w.Client.Seq (w.Client.Files.set a_2 (TCache.mk y_13.Mode y_13.Until y_13.Ver y_13.Body y_13.Dirty y_13.Sent y_13.Called true)) w.Client.Names (TOut.mk false (TAsk.mk 0 0 0 0 [] 0 0 []) 0 0) w.Client.Bad w.Client.Hits w.Client.Asks) []))
                  else bif (!(t.Err == 0)) then (((w.Client.Files[a_2]?)).bind fun y_14 =>
                      k0 (Tclient_work.mk (TClient.mk w.Client.ID w.Client.Now w.Client.Epoch w.Client.Seq (w.Client.Files.set a_2 (TCache.mk y_14.Mode y_14.Until y_14.Ver y_14.Body y_14.Dirty y_14.Sent y_14.Called (decide ((w.Client.Out.Ask.Writes.length : Int) > 0)))) w.Client.Names (TOut.mk false (TAsk.mk 0 0 0 0 [] 0 0 []) 0 0) w.Client.Bad w.Client.Hits w.Client.Asks) []))
                    else ((w.Client.Files[a_2]?)).bind fun y_15 =>
                      k0 (Tclient_work.mk (TClient.mk w.Client.ID w.Client.Now w.Client.Epoch w.Client.Seq (w.Client.Files.set a_2 (TCache.mk y_15.Mode y_15.Until y_15.Ver y_15.Body y_15.Dirty y_15.Sent y_15.Called false)) w.Client.Names (TOut.mk false (TAsk.mk 0 0 0 0 [] 0 0 []) 0 0) w.Client.Bad w.Client.Hits w.Client.Asks) []))
                else bif (w.Client.Out.Ask.Kind == 5) then (bif (t.Err == 0) then (bif (inR (wi64 (w.Client.Out.Ask.File - 1)) w.Client.Names.length) then (((w.Client.Names[(wi64 (w.Client.Out.Ask.File - 1)).toNat]?)).bind fun y_16 =>
                        k0 (Tclient_work.mk (TClient.mk w.Client.ID w.Client.Now w.Client.Epoch w.Client.Seq w.Client.Files (w.Client.Names.set (wi64 (w.Client.Out.Ask.File - 1)).toNat []) (TOut.mk false (TAsk.mk 0 0 0 0 [] 0 0 []) 0 0) w.Client.Bad w.Client.Hits w.Client.Asks) []))
                      else none)
                    else k0 (Tclient_work.mk (TClient.mk w.Client.ID w.Client.Now w.Client.Epoch w.Client.Seq w.Client.Files w.Client.Names (TOut.mk false (TAsk.mk 0 0 0 0 [] 0 0 []) 0 0) w.Client.Bad w.Client.Hits w.Client.Asks) []))
                  else k0 (Tclient_work.mk (TClient.mk w.Client.ID w.Client.Now w.Client.Epoch w.Client.Seq w.Client.Files w.Client.Names (TOut.mk false (TAsk.mk 0 0 0 0 [] 0 0 []) 0 0) w.Client.Bad w.Client.Hits w.Client.Asks) [])) (fun b_17 =>
          bif (w.Client.Out.Ask.Kind == 1) then (bif (t.Err == 0) then (((client_work_named_2 n_ w.Client.Out.Ask.Name t.File (Tclient_work.mk (TClient.mk w.Client.ID w.Client.Now w.Client.Epoch w.Client.Seq w.Client.Files w.Client.Names (TOut.mk false (TAsk.mk 0 0 0 0 [] 0 0 []) 0 0) w.Client.Bad w.Client.Hits w.Client.Asks) []))).bind fun r_18 =>
              k0 (Tclient_work.mk (TClient.mk r_18.Client.ID r_18.Client.Now r_18.Client.Epoch r_18.Client.Seq r_18.Client.Files r_18.Client.Names (TOut.mk r_18.Client.Out.Is (TAsk.mk r_18.Client.Out.Ask.Kind r_18.Client.Out.Ask.From r_18.Client.Out.Ask.Epoch r_18.Client.Out.Ask.Seq r_18.Client.Out.Ask.Name r_18.Client.Out.Ask.File r_18.Client.Out.Ask.Mode []) r_18.Client.Out.First r_18.Client.Out.Last) r_18.Client.Bad r_18.Client.Hits r_18.Client.Asks) []))
            else k0 (Tclient_work.mk (TClient.mk w.Client.ID w.Client.Now w.Client.Epoch w.Client.Seq w.Client.Files w.Client.Names (TOut.mk false (TAsk.mk 0 0 0 0 [] 0 0 []) 0 0) w.Client.Bad w.Client.Hits w.Client.Asks) []))
          else bif (w.Client.Out.Ask.Kind == 2) then (((clock_Short 60 100)).bind fun r_19 =>
              bif (t.Err == 0) then (bif (decide (w.Client.Now < (clock_Add w.Client.Out.First r_19))) then (bif (t.Mode != 0) then k0 (Tclient_work.mk (TClient.mk w.Client.ID w.Client.Now w.Client.Epoch w.Client.Seq w.Client.Files w.Client.Names (TOut.mk false (TAsk.mk 0 0 0 0 [] 0 0 []) 0 0) w.Client.Bad w.Client.Hits w.Client.Asks) [])
                  else k0 (Tclient_work.mk (TClient.mk w.Client.ID w.Client.Now w.Client.Epoch w.Client.Seq w.Client.Files w.Client.Names (TOut.mk false (TAsk.mk 0 0 0 0 [] 0 0 []) 0 0) w.Client.Bad w.Client.Hits w.Client.Asks) []))
                else k0 (Tclient_work.mk (TClient.mk w.Client.ID w.Client.Now w.Client.Epoch w.Client.Seq w.Client.Files w.Client.Names (TOut.mk false (TAsk.mk 0 0 0 0 [] 0 0 []) 0 0) w.Client.Bad w.Client.Hits w.Client.Asks) []))
              else k0 (Tclient_work.mk (TClient.mk w.Client.ID w.Client.Now w.Client.Epoch w.Client.Seq w.Client.Files w.Client.Names (TOut.mk false (TAsk.mk 0 0 0 0 [] 0 0 []) 0 0) w.Client.Bad w.Client.Hits w.Client.Asks) []))
            else bif (w.Client.Out.Ask.Kind == 3) then (bif (t.Err == 0) then (((cache_Done n_ (TCache.mk 0 0 0 [] [] 0 false false) t.Ver)).bind fun r_20 =>
                  k0 (Tclient_work.mk (TClient.mk w.Client.ID w.Client.Now w.Client.Epoch w.Client.Seq w.Client.Files w.Client.Names (TOut.mk false (TAsk.mk 0 0 0 0 [] 0 0 []) 0 0) w.Client.Bad w.Client.Hits w.Client.Asks) []))
                else k0 (Tclient_work.mk (TClient.mk w.Client.ID w.Client.Now w.Client.Epoch w.Client.Seq w.Client.Files w.Client.Names (TOut.mk false (TAsk.mk 0 0 0 0 [] 0 0 []) 0 0) w.Client.Bad w.Client.Hits w.Client.Asks) []))
              else bif (w.Client.Out.Ask.Kind == 4) then (bif (!(t.Err == 0)) then k0 (Tclient_work.mk (TClient.mk w.Client.ID w.Client.Now w.Client.Epoch w.Client.Seq w.Client.Files w.Client.Names (TOut.mk false (TAsk.mk 0 0 0 0 [] 0 0 []) 0 0) w.Client.Bad w.Client.Hits w.Client.Asks) [])
                  else k0 (Tclient_work.mk (TClient.mk w.Client.ID w.Client.Now w.Client.Epoch w.Client.Seq w.Client.Files w.Client.Names (TOut.mk false (TAsk.mk 0 0 0 0 [] 0 0 []) 0 0) w.Client.Bad w.Client.Hits w.Client.Asks) []))
                else bif (w.Client.Out.Ask.Kind == 5) then (bif (t.Err == 0) then (bif (inR (wi64 (w.Client.Out.Ask.File - 1)) w.Client.Names.length) then (((w.Client.Names[(wi64 (w.Client.Out.Ask.File - 1)).toNat]?)).bind fun y_21 =>
                        k0 (Tclient_work.mk (TClient.mk w.Client.ID w.Client.Now w.Client.Epoch w.Client.Seq w.Client.Files (w.Client.Names.set (wi64 (w.Client.Out.Ask.File - 1)).toNat []) (TOut.mk false (TAsk.mk 0 0 0 0 [] 0 0 []) 0 0) w.Client.Bad w.Client.Hits w.Client.Asks) []))
                      else none)
                    else k0 (Tclient_work.mk (TClient.mk w.Client.ID w.Client.Now w.Client.Epoch w.Client.Seq w.Client.Files w.Client.Names (TOut.mk false (TAsk.mk 0 0 0 0 [] 0 0 []) 0 0) w.Client.Bad w.Client.Hits w.Client.Asks) []))
                  else k0 (Tclient_work.mk (TClient.mk w.Client.ID w.Client.Now w.Client.Epoch w.Client.Seq w.Client.Files w.Client.Names (TOut.mk false (TAsk.mk 0 0 0 0 [] 0 0 []) 0 0) w.Client.Bad w.Client.Hits w.Client.Asks) []))
def client_work_done (t : TTell) (w : Tclient_work) : Option (Tclient_work ⊕ Tclient_work) := client_work_done_k n_ (fun x => some (.inl x)) (fun x => some (.inr x)) t w
theorem client_work_done_bind {α : Type} (k0 : Tclient_work → Option α) (k1 : Tclient_work → Option α) (t : TTell) (w : Tclient_work) : client_work_done_k n_ k0 k1 t w = (client_work_done n_ t w).bind (fun s0_ => alt s0_ k0 k1) := by
  unfold client_work_done client_work_done_k; simp only [bind_cond, Option.bind_assoc, alt_bind, Option.bind_some, Option.bind_none, alt_inl, alt_inr]

/-! tenancy/client.Comes -/
@[reducible] def client_Comes_k {α : Type} (k0 : (TClient × List TAsk) → Option α) (c : TClient) (b : List UInt8) : Option α :=
  ((client_of n_ c)).bind fun r_1 =>
  ((msg_TakeTell n_ b)).bind fun r_2 =>
  bif (!r_2.2) then k0 ((TClient.mk r_1.Client.ID r_1.Client.Now r_1.Client.Epoch r_1.Client.Seq r_1.Client.Files r_1.Client.Names r_1.Client.Out (imin (wi64 (r_1.Client.Bad + 1)) 1073741824) r_1.Client.Hits r_1.Client.Asks), [])
  else bif (r_2.1.To != c.ID) then k0 ((TClient.mk r_1.Client.ID r_1.Client.Now r_1.Client.Epoch r_1.Client.Seq r_1.Client.Files r_1.Client.Names r_1.Client.Out (imin (wi64 (r_1.Client.Bad + 1)) 1073741824) r_1.Client.Hits r_1.Client.Asks), [])
    else bif (r_2.1.Kind == 3) then (((client_work_epoch n_ r_2.1 (Tclient_work.mk r_1.Client []))).bind fun r_3 =>
        alt r_3 (fun a_4 =>
          k0 (a_4.Client, [])) (fun b_5 =>
          k0 (b_5.Client, b_5.asked)))
      else bif (r_2.1.Kind == 2) then (((client_work_called r_2.1 (Tclient_work.mk r_1.Client []))).bind fun r_6 =>
          alt r_6 (fun a_7 =>
            k0 (a_7.Client, [])) (fun b_8 =>
            alt b_8 (fun a_9 =>
              k0 (a_9.Client, [])) (fun b_10 =>
              alt b_10 (fun a_11 =>
                k0 (a_11.Client, a_11.asked)) (fun b_12 =>
                k0 (b_12.Client, b_12.asked)))))
        else bif (r_2.1.Kind == 1) then (((client_work_done n_ r_2.1 (Tclient_work.mk r_1.Client []))).bind fun r_13 =>
            alt r_13 (fun a_14 =>
              k0 ((TClient.mk a_14.Client.ID a_14.Client.Now a_14.Client.Epoch a_14.Client.Seq a_14.Client.Files a_14.Client.Names (TOut.mk a_14.Client.Out.Is (TAsk.mk a_14.Client.Out.Ask.Kind a_14.Client.Out.Ask.From a_14.Client.Out.Ask.Epoch a_14.Client.Out.Ask.Seq a_14.Client.Out.Ask.Name a_14.Client.Out.Ask.File a_14.Client.Out.Ask.Mode []) a_14.Client.Out.First a_14.Client.Out.Last) a_14.Client.Bad a_14.Client.Hits a_14.Client.Asks), [])) (fun b_15 =>
              k0 (b_15.Client, [])))
          else k0 (r_1.Client, [])
def client_Comes (c : TClient) (b : List UInt8) : Option (TClient × List TAsk) := client_Comes_k n_ (fun x => some x) c b
theorem client_Comes_bind {α : Type} (k0 : (TClient × List TAsk) → Option α) (c : TClient) (b : List UInt8) : client_Comes_k n_ k0 c b = (client_Comes n_ c b).bind k0 := by
  unfold client_Comes client_Comes_k; simp only [bind_cond, Option.bind_assoc, alt_bind, Option.bind_some, Option.bind_none, alt_inl, alt_inr]

/-! tenancy/sess.Due -/
@[reducible] def sess_Due_k {α : Type} (k : Bool → α) (o : TOut) (now : Int) : α :=
  bif o.Is then k (decide ((wi64 (now - o.Last)) ≥ 10))
  else k false
def sess_Due (o : TOut) (now : Int) : Bool := sess_Due_k id o now
theorem sess_Due_bind {α : Type} (k : Bool → α) (o : TOut) (now : Int) : sess_Due_k k o now = k (sess_Due o now) := by
  unfold sess_Due sess_Due_k; simp only [Bool.apply_cond k, id]

/-! tenancy/client.Run$1 -/
@[reducible] def client_Run_c1_k {α : Type} (k : Bool → α) (f : TCache) (o1 : Tclient_work) : α :=
  bif (f.Mode != 0) then (bif f.Called then k true
    else bif (decide ((f.Dirty.length : Int) > 0)) then k (decide (o1.Client.Now ≥ (wi64 (f.Until - 15))))
      else k false)
  else k false
def client_Run_c1 (f : TCache) (o1 : Tclient_work) : Bool := client_Run_c1_k id f o1
theorem client_Run_c1_bind {α : Type} (k : Bool → α) (f : TCache) (o1 : Tclient_work) : client_Run_c1_k k f o1 = k (client_Run_c1 f o1) := by
  unfold client_Run_c1 client_Run_c1_k; simp only [Bool.apply_cond k, id]

/-! slices.IndexFunc[[]tenancy/api.Cache,tenancy/api.Cache] -/
@[reducible] def slices_IndexFunc_Cache_s0k {α : Type} (s : List TCache) (t7 : Int) (kc : (Int × Tclient_work) → Option α) (k0 : (Int × Tclient_work) → Option α) (k1 : Tclient_work → Option α) (t8 : Int) (o1 : Tclient_work) : Option α :=
  bif (decide (t8 < t7)) then (bif (inR t8 s.length) then (((s[t8.toNat]?)).bind fun y_1 =>
      bif (client_Run_c1 y_1 (Tclient_work.mk o1.Client [])) then k0 (t8, (Tclient_work.mk o1.Client []))
      else kc ((wi64 (t8 + 1)), (Tclient_work.mk o1.Client [])))
    else none)
  else k1 (Tclient_work.mk o1.Client [])
def slices_IndexFunc_Cache_s0 (s : List TCache) (t7 : Int) (v_ : Int × Tclient_work) : Option ((Int × Tclient_work) ⊕ ((Int × Tclient_work) ⊕ Tclient_work)) := slices_IndexFunc_Cache_s0k s t7 (fun x => some (.inl x)) (fun x => some (.inr (.inl x))) (fun x => some (.inr (.inr x))) v_.1 v_.2
def slices_IndexFunc_Cache_l0 (s : List TCache) (t7 : Int) (t8 : Int) (o1 : Tclient_work) : Option ((Int × Tclient_work) ⊕ Tclient_work) := iter (slices_IndexFunc_Cache_s0 s t7) n_ (t8, o1)
theorem slices_IndexFunc_Cache_s0_bind {α : Type} (s : List TCache) (t7 : Int) (kc : (Int × Tclient_work) → Option α) (k0 : (Int × Tclient_work) → Option α) (k1 : Tclient_work → Option α) (t8 : Int) (o1 : Tclient_work) : slices_IndexFunc_Cache_s0k s t7 kc k0 k1 t8 o1 = (slices_IndexFunc_Cache_s0 s t7 (t8, o1)).bind fun s_ => alt s_ kc (fun s0_ => alt s0_ k0 k1) := by
  unfold slices_IndexFunc_Cache_s0 slices_IndexFunc_Cache_s0k; simp only [bind_cond, Option.bind_assoc, alt_bind, Option.bind_some, Option.bind_none, alt_inl, alt_inr]
@[reducible] def slices_IndexFunc_Cache_k {α : Type} (k0 : (Int × Tclient_work) → Option α) (s : List TCache) (o1 : Tclient_work) : Option α :=
  ((slices_IndexFunc_Cache_l0 n_ s (s.length : Int) 0 (Tclient_work.mk o1.Client []))).bind fun r_1 =>
  alt r_1 (fun a_2 =>
    k0 (a_2.1, (Tclient_work.mk a_2.2.Client []))) (fun b_3 =>
    k0 ((-1), (Tclient_work.mk b_3.Client [])))
def slices_IndexFunc_Cache (s : List TCache) (o1 : Tclient_work) : Option (Int × Tclient_work) := slices_IndexFunc_Cache_k n_ (fun x => some x) s o1
theorem slices_IndexFunc_Cache_bind {α : Type} (k0 : (Int × Tclient_work) → Option α) (s : List TCache) (o1 : Tclient_work) : slices_IndexFunc_Cache_k n_ k0 s o1 = (slices_IndexFunc_Cache n_ s o1).bind k0 := by
  unfold slices_IndexFunc_Cache slices_IndexFunc_Cache_k; simp only [bind_cond, Option.bind_assoc, alt_bind, Option.bind_some, Option.bind_none, alt_inl, alt_inr]

/-! (*tenancy/client.work).gives -/
@[reducible] def client_work_gives_2_k {α : Type} (k0 : Tclient_work → Option α) (k1 : Tclient_work → Option α) (n : Int) (w : Tclient_work) : Option α :=
  ((client_work_file n (Tclient_work.mk w.Client []))).bind fun r_1 =>
  alt r_1 (fun a_2 =>
    ((w.Client.Files[a_2]?)).bind fun y_3 =>
    (((client_work_asks_2 (TAsk.mk 4 0 0 0 [] n 0 y_3.Dirty) (Tclient_work.mk w.Client [])).Client.Files[a_2]?)).bind fun y_4 =>
    (((client_work_asks_2 (TAsk.mk 4 0 0 0 [] n 0 y_3.Dirty) (Tclient_work.mk w.Client [])).Client.Files[a_2]?)).bind fun y_5 =>
    (((client_work_asks_2 (TAsk.mk 4 0 0 0 [] n 0 y_3.Dirty) (Tclient_work.mk w.Client [])).Client.Files[a_2]?)).bind fun y_6 =>
    ((((client_work_asks_2 (TAsk.mk 4 0 0 0 [] n 0 y_3.Dirty) (Tclient_work.mk w.Client [])).Client.Files.set a_2 (cache_Reset y_5))[a_2]?)).bind fun y_7 =>
    k0 (Tclient_work.mk (TClient.mk (client_work_asks_2 (TAsk.mk 4 0 0 0 [] n 0 y_3.Dirty) (Tclient_work.mk w.Client [])).Client.ID (client_work_asks_2 (TAsk.mk 4 0 0 0 [] n 0 y_3.Dirty) (Tclient_work.mk w.Client [])).Client.Now (client_work_asks_2 (TAsk.mk 4 0 0 0 [] n 0 y_3.Dirty) (Tclient_work.mk w.Client [])).Client.Epoch (client_work_asks_2 (TAsk.mk 4 0 0 0 [] n 0 y_3.Dirty) (Tclient_work.mk w.Client [])).Client.Seq (((client_work_asks_2 (TAsk.mk 4 0 0 0 [] n 0 y_3.Dirty) (Tclient_work.mk w.Client [])).Client.Files.set a_2 (cache_Reset y_5)).set a_2 (TCache.mk y_7.Mode y_7.Until y_7.Ver y_7.Body y_7.Dirty y_7.Sent y_7.Called y_4.Lost)) (client_work_asks_2 (TAsk.mk 4 0 0 0 [] n 0 y_3.Dirty) (Tclient_work.mk w.Client [])).Client.Names (client_work_asks_2 (TAsk.mk 4 0 0 0 [] n 0 y_3.Dirty) (Tclient_work.mk w.Client [])).Client.Out (client_work_asks_2 (TAsk.mk 4 0 0 0 [] n 0 y_3.Dirty) (Tclient_work.mk w.Client [])).Client.Bad (client_work_asks_2 (TAsk.mk 4 0 0 0 [] n 0 y_3.Dirty) (Tclient_work.mk w.Client [])).Client.Hits (client_work_asks_2 (TAsk.mk 4 0 0 0 [] n 0 y_3.Dirty) (Tclient_work.mk w.Client [])).Client.Asks) (client_work_asks_2 (TAsk.mk 4 0 0 0 [] n 0 y_3.Dirty) (Tclient_work.mk w.Client [])).asked)) (fun b_8 =>
    k1 (client_work_asks (TAsk.mk 4 0 0 0 [] n 0 []) (Tclient_work.mk w.Client [])))
def client_work_gives_2 (n : Int) (w : Tclient_work) : Option (Tclient_work ⊕ Tclient_work) := client_work_gives_2_k (fun x => some (.inl x)) (fun x => some (.inr x)) n w
theorem client_work_gives_2_bind {α : Type} (k0 : Tclient_work → Option α) (k1 : Tclient_work → Option α) (n : Int) (w : Tclient_work) : client_work_gives_2_k k0 k1 n w = (client_work_gives_2 n w).bind (fun s0_ => alt s0_ k0 k1) := by
  unfold client_work_gives_2 client_work_gives_2_k; simp only [bind_cond, Option.bind_assoc, alt_bind, Option.bind_some, Option.bind_none, alt_inl, alt_inr]

/-! tenancy/client.Run -/
@[reducible] def client_Run_k {α : Type} (k0 : (TClient × List TAsk) → Option α) (c : TClient) : Option α :=
  ((client_of n_ c)).bind fun r_1 =>
  bif r_1.Client.Out.Is then (bif (sess_Due r_1.Client.Out r_1.Client.Now) then k0 ((client_work_again (Tclient_work.mk r_1.Client [])).Client, (client_work_again (Tclient_work.mk r_1.Client [])).asked)
    else k0 (r_1.Client, []))
  else ((slices_IndexFunc_Cache n_ r_1.Client.Files (Tclient_work.mk r_1.Client []))).bind fun r_2 =>
    bif (decide (r_2.1 ≥ 0)) then (((client_work_gives_2 (wi64 (r_2.1 + 1)) (Tclient_work.mk r_1.Client []))).bind fun r_3 =>
      alt r_3 (fun a_4 =>
        k0 (a_4.Client, a_4.asked)) (fun b_5 =>
        k0 (b_5.Client, b_5.asked)))
    else k0 (r_1.Client, [])
def client_Run (c : TClient) : Option (TClient × List TAsk) := client_Run_k n_ (fun x => some x) c
theorem client_Run_bind {α : Type} (k0 : (TClient × List TAsk) → Option α) (c : TClient) : client_Run_k n_ k0 c = (client_Run n_ c).bind k0 := by
  unfold client_Run client_Run_k; simp only [bind_cond, Option.bind_assoc, alt_bind, Option.bind_some, Option.bind_none, alt_inl, alt_inr]

/-! slices.Equal[[]tenancy/api.Write,tenancy/api.Write] -/
@[reducible] def slices_Equal_Write_s0k {α : Type} (s1 : List TWrite) (s2 : List TWrite) (t12 : Int) (kc : Int → Option α) (k0 : Unit → Option α) (k1 : Unit → Option α) (t13 : Int) : Option α :=
  bif (decide (t13 < t12)) then (bif (inR t13 s1.length) then (((s1[t13.toNat]?)).bind fun y_1 =>
      bif (inR t13 s2.length) then (((s2[t13.toNat]?)).bind fun y_2 =>
        bif (!(TWrite.eqb y_1 y_2)) then k0 ()
        else kc (wi64 (t13 + 1)))
      else none)
    else none)
  else k1 ()
def slices_Equal_Write_s0 (s1 : List TWrite) (s2 : List TWrite) (t12 : Int) (v_ : Int) : Option (Int ⊕ (Unit ⊕ Unit)) := slices_Equal_Write_s0k s1 s2 t12 (fun x => some (.inl x)) (fun x => some (.inr (.inl x))) (fun x => some (.inr (.inr x))) v_
def slices_Equal_Write_l0 (s1 : List TWrite) (s2 : List TWrite) (t12 : Int) (t13 : Int) : Option (Unit ⊕ Unit) := iter (slices_Equal_Write_s0 s1 s2 t12) n_ t13
theorem slices_Equal_Write_s0_bind {α : Type} (s1 : List TWrite) (s2 : List TWrite) (t12 : Int) (kc : Int → Option α) (k0 : Unit → Option α) (k1 : Unit → Option α) (t13 : Int) : slices_Equal_Write_s0k s1 s2 t12 kc k0 k1 t13 = (slices_Equal_Write_s0 s1 s2 t12 t13).bind fun s_ => alt s_ kc (fun s0_ => alt s0_ k0 k1) := by
  unfold slices_Equal_Write_s0 slices_Equal_Write_s0k; simp only [bind_cond, Option.bind_assoc, alt_bind, Option.bind_some, Option.bind_none, alt_inl, alt_inr]
@[reducible] def slices_Equal_Write_k {α : Type} (k0 : Bool → Option α) (s1 : List TWrite) (s2 : List TWrite) : Option α :=
  bif ((s1.length : Int) != (s2.length : Int)) then k0 false
  else ((slices_Equal_Write_l0 n_ s1 s2 (s1.length : Int) 0)).bind fun r_1 =>
    alt r_1 (fun a_2 =>
      k0 false) (fun b_3 =>
      k0 true)
def slices_Equal_Write (s1 : List TWrite) (s2 : List TWrite) : Option Bool := slices_Equal_Write_k n_ (fun x => some x) s1 s2
theorem slices_Equal_Write_bind {α : Type} (k0 : Bool → Option α) (s1 : List TWrite) (s2 : List TWrite) : slices_Equal_Write_k n_ k0 s1 s2 = (slices_Equal_Write n_ s1 s2).bind k0 := by
  unfold slices_Equal_Write slices_Equal_Write_k; simp only [bind_cond, Option.bind_assoc, alt_bind, Option.bind_some, Option.bind_none, alt_inl, alt_inr]

/-! tenancy/msg.SameAsk -/
@[reducible] def msg_SameAsk_k {α : Type} (k0 : Bool → Option α) (a : TAsk) (b : TAsk) : Option α :=
  bif (a.Kind == b.Kind) then (bif (a.From == b.From) then (bif (a.Epoch == b.Epoch) then (bif (a.Seq == b.Seq) then (bif (a.Name == b.Name) then (bif (a.File == b.File) then (bif (a.Mode == b.Mode) then (((slices_Equal_Write n_ a.Writes b.Writes)).bind fun r_1 =>
                k0 r_1)
              else k0 false)
            else k0 false)
          else k0 false)
        else k0 false)
      else k0 false)
    else k0 false)
  else k0 false
def msg_SameAsk (a : TAsk) (b : TAsk) : Option Bool := msg_SameAsk_k n_ (fun x => some x) a b
theorem msg_SameAsk_bind {α : Type} (k0 : Bool → Option α) (a : TAsk) (b : TAsk) : msg_SameAsk_k n_ k0 a b = (msg_SameAsk n_ a b).bind k0 := by
  unfold msg_SameAsk msg_SameAsk_k; simp only [bind_cond, Option.bind_assoc, alt_bind, Option.bind_some, Option.bind_none, alt_inl, alt_inr]

/-! tenancy/cache.Same -/
@[reducible] def cache_Same_k {α : Type} (k0 : Bool → Option α) (a : TCache) (b : TCache) : Option α :=
  bif (a.Mode == b.Mode) then (bif (a.Until == b.Until) then (bif (a.Ver == b.Ver) then (bif (a.Body == b.Body) then (((slices_Equal_Write n_ a.Dirty b.Dirty)).bind fun r_1 =>
          bif r_1 then (bif (a.Sent == b.Sent) then (bif (a.Called == b.Called) then k0 (a.Lost == b.Lost)
              else k0 false)
            else k0 false)
          else k0 false)
        else k0 false)
      else k0 false)
    else k0 false)
  else k0 false
def cache_Same (a : TCache) (b : TCache) : Option Bool := cache_Same_k n_ (fun x => some x) a b
theorem cache_Same_bind {α : Type} (k0 : Bool → Option α) (a : TCache) (b : TCache) : cache_Same_k n_ k0 a b = (cache_Same n_ a b).bind k0 := by
  unfold cache_Same cache_Same_k; simp only [bind_cond, Option.bind_assoc, alt_bind, Option.bind_some, Option.bind_none, alt_inl, alt_inr]

/-! slices.EqualFunc[[]tenancy/api.Cache,[]tenancy/api.Cache,tenancy/api.Cache,tenancy/api.Cache] -/
@[reducible] def slices_EqualFunc_Cache_s0k {α : Type} (s2 : List TCache) (t15 : List TCache) (t16 : Int) (kc : Int → Option α) (k0 : (TCache × TCache) → Option α) (k1 : Unit → Option α) (t17 : Int) : Option α :=
  bif (decide (t17 < t16)) then (bif (inR t17 t15.length) then (((t15[t17.toNat]?)).bind fun y_1 =>
      bif (inR t17 s2.length) then (((s2[t17.toNat]?)).bind fun y_2 =>
        ((cache_Same n_ y_1 y_2)).bind fun r_3 =>
        bif (!r_3) then k0 (y_1, y_2)
        else kc (wi64 (t17 + 1)))
      else none)
    else none)
  else k1 ()
def slices_EqualFunc_Cache_s0 (s2 : List TCache) (t15 : List TCache) (t16 : Int) (v_ : Int) : Option (Int ⊕ ((TCache × TCache) ⊕ Unit)) := slices_EqualFunc_Cache_s0k n_ s2 t15 t16 (fun x => some (.inl x)) (fun x => some (.inr (.inl x))) (fun x => some (.inr (.inr x))) v_
def slices_EqualFunc_Cache_l0 (s2 : List TCache) (t15 : List TCache) (t16 : Int) (t17 : Int) : Option ((TCache × TCache) ⊕ Unit) := iter (slices_EqualFunc_Cache_s0 n_ s2 t15 t16) n_ t17
theorem slices_EqualFunc_Cache_s0_bind {α : Type} (s2 : List TCache) (t15 : List TCache) (t16 : Int) (kc : Int → Option α) (k0 : (TCache × TCache) → Option α) (k1 : Unit → Option α) (t17 : Int) : slices_EqualFunc_Cache_s0k n_ s2 t15 t16 kc k0 k1 t17 = (slices_EqualFunc_Cache_s0 n_ s2 t15 t16 t17).bind fun s_ => alt s_ kc (fun s0_ => alt s0_ k0 k1) := by
  unfold slices_EqualFunc_Cache_s0 slices_EqualFunc_Cache_s0k; simp only [bind_cond, Option.bind_assoc, alt_bind, Option.bind_some, Option.bind_none, alt_inl, alt_inr]
@[reducible] def slices_EqualFunc_Cache_k {α : Type} (k0 : Bool → Option α) (s1 : List TCache) (s2 : List TCache) : Option α :=
  bif ((s1.length : Int) != (s2.length : Int)) then k0 false
  else ((slices_EqualFunc_Cache_l0 n_ s2 s1 (s1.length : Int) 0)).bind fun r_1 =>
    alt r_1 (fun a_2 =>
      k0 false) (fun b_3 =>
      k0 true)
def slices_EqualFunc_Cache (s1 : List TCache) (s2 : List TCache) : Option Bool := slices_EqualFunc_Cache_k n_ (fun x => some x) s1 s2
theorem slices_EqualFunc_Cache_bind {α : Type} (k0 : Bool → Option α) (s1 : List TCache) (s2 : List TCache) : slices_EqualFunc_Cache_k n_ k0 s1 s2 = (slices_EqualFunc_Cache n_ s1 s2).bind k0 := by
  unfold slices_EqualFunc_Cache slices_EqualFunc_Cache_k; simp only [bind_cond, Option.bind_assoc, alt_bind, Option.bind_some, Option.bind_none, alt_inl, alt_inr]

/-! slices.Equal[[]string,string] -/
@[reducible] def slices_Equal_string_s0k {α : Type} (s1 : List (List UInt8)) (s2 : List (List UInt8)) (t12 : Int) (kc : Int → Option α) (k0 : Unit → Option α) (k1 : Unit → Option α) (t13 : Int) : Option α :=
  bif (decide (t13 < t12)) then (bif (inR t13 s1.length) then (((s1[t13.toNat]?)).bind fun y_1 =>
      bif (inR t13 s2.length) then (((s2[t13.toNat]?)).bind fun y_2 =>
        bif (!(y_1 == y_2)) then k0 ()
        else kc (wi64 (t13 + 1)))
      else none)
    else none)
  else k1 ()
def slices_Equal_string_s0 (s1 : List (List UInt8)) (s2 : List (List UInt8)) (t12 : Int) (v_ : Int) : Option (Int ⊕ (Unit ⊕ Unit)) := slices_Equal_string_s0k s1 s2 t12 (fun x => some (.inl x)) (fun x => some (.inr (.inl x))) (fun x => some (.inr (.inr x))) v_
def slices_Equal_string_l0 (s1 : List (List UInt8)) (s2 : List (List UInt8)) (t12 : Int) (t13 : Int) : Option (Unit ⊕ Unit) := iter (slices_Equal_string_s0 s1 s2 t12) n_ t13
theorem slices_Equal_string_s0_bind {α : Type} (s1 : List (List UInt8)) (s2 : List (List UInt8)) (t12 : Int) (kc : Int → Option α) (k0 : Unit → Option α) (k1 : Unit → Option α) (t13 : Int) : slices_Equal_string_s0k s1 s2 t12 kc k0 k1 t13 = (slices_Equal_string_s0 s1 s2 t12 t13).bind fun s_ => alt s_ kc (fun s0_ => alt s0_ k0 k1) := by
  unfold slices_Equal_string_s0 slices_Equal_string_s0k; simp only [bind_cond, Option.bind_assoc, alt_bind, Option.bind_some, Option.bind_none, alt_inl, alt_inr]
@[reducible] def slices_Equal_string_k {α : Type} (k0 : Bool → Option α) (s1 : List (List UInt8)) (s2 : List (List UInt8)) : Option α :=
  bif ((s1.length : Int) != (s2.length : Int)) then k0 false
  else ((slices_Equal_string_l0 n_ s1 s2 (s1.length : Int) 0)).bind fun r_1 =>
    alt r_1 (fun a_2 =>
      k0 false) (fun b_3 =>
      k0 true)
def slices_Equal_string (s1 : List (List UInt8)) (s2 : List (List UInt8)) : Option Bool := slices_Equal_string_k n_ (fun x => some x) s1 s2
theorem slices_Equal_string_bind {α : Type} (k0 : Bool → Option α) (s1 : List (List UInt8)) (s2 : List (List UInt8)) : slices_Equal_string_k n_ k0 s1 s2 = (slices_Equal_string n_ s1 s2).bind k0 := by
  unfold slices_Equal_string slices_Equal_string_k; simp only [bind_cond, Option.bind_assoc, alt_bind, Option.bind_some, Option.bind_none, alt_inl, alt_inr]

/-! tenancy/client.Same -/
@[reducible] def client_Same_k {α : Type} (k0 : Bool → Option α) (a : TClient) (b : TClient) : Option α :=
  bif (a.ID != b.ID) then k0 false
  else bif (a.Now != b.Now) then k0 false
    else bif (a.Epoch != b.Epoch) then k0 false
      else bif (a.Seq != b.Seq) then k0 false
        else bif (a.Bad != b.Bad) then k0 false
          else bif (a.Hits != b.Hits) then k0 false
            else bif (a.Asks != b.Asks) then k0 false
              else bif (!(a.Out.Is == b.Out.Is)) then k0 false
                else bif (a.Out.First != b.Out.First) then k0 false
                  else bif (a.Out.Last != b.Out.Last) then k0 false
                    else ((msg_SameAsk n_ a.Out.Ask b.Out.Ask)).bind fun r_1 =>
                      bif (!r_1) then k0 false
                      else ((slices_EqualFunc_Cache n_ a.Files b.Files)).bind fun r_2 =>
                        bif r_2 then (((slices_Equal_string n_ a.Names b.Names)).bind fun r_3 =>
                          k0 r_3)
                        else k0 false
def client_Same (a : TClient) (b : TClient) : Option Bool := client_Same_k n_ (fun x => some x) a b
theorem client_Same_bind {α : Type} (k0 : Bool → Option α) (a : TClient) (b : TClient) : client_Same_k n_ k0 a b = (client_Same n_ a b).bind k0 := by
  unfold client_Same client_Same_k; simp only [bind_cond, Option.bind_assoc, alt_bind, Option.bind_some, Option.bind_none, alt_inl, alt_inr]

/-! tenancy/client.Crash -/
@[reducible] def client_Crash_k {α : Type} (k : TClient → α) (c : TClient) : α :=
  k (TClient.mk (client_New c.ID).ID c.Now c.Epoch c.Seq (client_New c.ID).Files (client_New c.ID).Names (client_New c.ID).Out c.Bad c.Hits c.Asks)
def client_Crash (c : TClient) : TClient := client_Crash_k id c
theorem client_Crash_bind {α : Type} (k : TClient → α) (c : TClient) : client_Crash_k k c = k (client_Crash c) := by
  unfold client_Crash client_Crash_k; simp only [Bool.apply_cond k, id]

/-! tenancy/tenancylaw20.begun -/
@[reducible] def law20_begun_k {α : Type} (k0 : Bool → Option α) : Option α :=
  ((client_Do n_ (client_New 1) (TStep.mk 4 1 0 2 0 0 0 [] []))).bind fun r_1 =>
  ((ref13_PutTell n_ (TTell.mk 1 1 0 1 0 2 1 1 [98]))).bind fun r_2 =>
  ((client_Comes n_ r_1.1 r_2)).bind fun r_3 =>
  ((client_Do n_ r_3.1 (TStep.mk 4 1 0 2 0 0 0 [] []))).bind fun r_4 =>
  ((client_Run n_ r_1.1)).bind fun r_5 =>
  bif (((client_New 1).Files.length : Int) == 6) then (bif (r_1.2.1.Err == 5) then (bif ((r_1.2.2.length : Int) == 1) then (bif (inR 0 r_1.2.2.length) then (((r_1.2.2[0]?)).bind fun y_6 =>
          bif (y_6.Mode == 1) then (bif r_1.1.Out.Is then (bif ((r_3.2.length : Int) == 0) then (bif (!r_3.1.Out.Is) then (bif (r_4.2.1.Err == 0) then (bif (r_4.2.1.Body == [98]) then (bif ((r_4.2.2.length : Int) == 0) then (bif (r_4.1.Hits == 1) then (bif ((r_5.2.length : Int) == 0) then (((client_Same n_ r_5.1 r_1.1)).bind fun r_7 =>
                            bif r_7 then k0 (((client_Crash r_3.1).Files.length : Int) == 6)
                            else k0 false)
                          else k0 false)
                        else k0 false)
                      else k0 false)
                    else k0 false)
                  else k0 false)
                else k0 false)
              else k0 false)
            else k0 false)
          else k0 false)
        else none)
      else k0 false)
    else k0 false)
  else k0 false
def law20_begun : Option Bool := law20_begun_k n_ (fun x => some x)
theorem law20_begun_bind {α : Type} (k0 : Bool → Option α) : law20_begun_k n_ k0 = (law20_begun n_).bind k0 := by
  unfold law20_begun law20_begun_k; simp only [bind_cond, Option.bind_assoc, alt_bind, Option.bind_some, Option.bind_none, alt_inl, alt_inr]

/-! tenancy/tenancyref7.SameWrites -/
@[reducible] def ref7_SameWrites_s0k {α : Type} (a : List TWrite) (b : List TWrite) (kc : Int → Option α) (k0 : Unit → Option α) (k1 : Unit → Option α) (i : Int) : Option α :=
  bif (decide (i < (a.length : Int))) then (bif (inR i a.length) then (((a[i.toNat]?)).bind fun y_1 =>
      bif (inR i b.length) then (((b[i.toNat]?)).bind fun y_2 =>
        bif (!(TWrite.eqb y_1 y_2)) then k0 ()
        else kc (wi64 (i + 1)))
      else none)
    else none)
  else k1 ()
def ref7_SameWrites_s0 (a : List TWrite) (b : List TWrite) (v_ : Int) : Option (Int ⊕ (Unit ⊕ Unit)) := ref7_SameWrites_s0k a b (fun x => some (.inl x)) (fun x => some (.inr (.inl x))) (fun x => some (.inr (.inr x))) v_
def ref7_SameWrites_l0 (a : List TWrite) (b : List TWrite) (i : Int) : Option (Unit ⊕ Unit) := iter (ref7_SameWrites_s0 a b) n_ i
theorem ref7_SameWrites_s0_bind {α : Type} (a : List TWrite) (b : List TWrite) (kc : Int → Option α) (k0 : Unit → Option α) (k1 : Unit → Option α) (i : Int) : ref7_SameWrites_s0k a b kc k0 k1 i = (ref7_SameWrites_s0 a b i).bind fun s_ => alt s_ kc (fun s0_ => alt s0_ k0 k1) := by
  unfold ref7_SameWrites_s0 ref7_SameWrites_s0k; simp only [bind_cond, Option.bind_assoc, alt_bind, Option.bind_some, Option.bind_none, alt_inl, alt_inr]
@[reducible] def ref7_SameWrites_k {α : Type} (k0 : Bool → Option α) (a : List TWrite) (b : List TWrite) : Option α :=
  bif ((a.length : Int) != (b.length : Int)) then k0 false
  else ((ref7_SameWrites_l0 n_ a b 0)).bind fun r_1 =>
    alt r_1 (fun a_2 =>
      k0 false) (fun b_3 =>
      k0 true)
def ref7_SameWrites (a : List TWrite) (b : List TWrite) : Option Bool := ref7_SameWrites_k n_ (fun x => some x) a b
theorem ref7_SameWrites_bind {α : Type} (k0 : Bool → Option α) (a : List TWrite) (b : List TWrite) : ref7_SameWrites_k n_ k0 a b = (ref7_SameWrites n_ a b).bind k0 := by
  unfold ref7_SameWrites ref7_SameWrites_k; simp only [bind_cond, Option.bind_assoc, alt_bind, Option.bind_some, Option.bind_none, alt_inl, alt_inr]

/-! tenancy/tenancyref13.SameAsk -/
@[reducible] def ref13_SameAsk_k {α : Type} (k0 : Bool → Option α) (a : TAsk) (b : TAsk) : Option α :=
  bif (a.Kind == b.Kind) then (bif (a.From == b.From) then (bif (a.Epoch == b.Epoch) then (bif (a.Seq == b.Seq) then (bif (a.Name == b.Name) then (bif (a.File == b.File) then (bif (a.Mode == b.Mode) then (((ref7_SameWrites n_ a.Writes b.Writes)).bind fun r_1 =>
                k0 r_1)
              else k0 false)
            else k0 false)
          else k0 false)
        else k0 false)
      else k0 false)
    else k0 false)
  else k0 false
def ref13_SameAsk (a : TAsk) (b : TAsk) : Option Bool := ref13_SameAsk_k n_ (fun x => some x) a b
theorem ref13_SameAsk_bind {α : Type} (k0 : Bool → Option α) (a : TAsk) (b : TAsk) : ref13_SameAsk_k n_ k0 a b = (ref13_SameAsk n_ a b).bind k0 := by
  unfold ref13_SameAsk ref13_SameAsk_k; simp only [bind_cond, Option.bind_assoc, alt_bind, Option.bind_some, Option.bind_none, alt_inl, alt_inr]

/-! tenancy/tenancylaw20.ClientAgain -/
@[reducible] def law20_ClientAgain_s0k {α : Type} (gaps : List UInt8) (l : List TAsk) (o1 : TAns) (kc : (Int × Int × TClient) → Option α) (k0 : (TClient × TClient) → Option α) (k1 : TClient → Option α) (last : Int) (i : Int) (c : TClient) : Option α :=
  bif (decide (i < (gaps.length : Int))) then (bif (inR i gaps.length) then (((gaps[i.toNat]?)).bind fun y_1 =>
      ((client_Run n_ (TClient.mk c.ID (wi64 (c.Now + (wi64 (i8 (b8 ((i8 y_1).tmod 15)))))) c.Epoch c.Seq c.Files c.Names c.Out c.Bad c.Hits c.Asks))).bind fun r_2 =>
      bif (!(((r_2.2.length : Int) == 1) == (decide ((wi64 ((wi64 (c.Now + (wi64 (i8 (b8 ((i8 y_1).tmod 15)))))) - last)) ≥ 10)))) then k0 ((TClient.mk c.ID (wi64 (c.Now + (wi64 (i8 (b8 ((i8 y_1).tmod 15)))))) c.Epoch c.Seq c.Files c.Names c.Out c.Bad c.Hits c.Asks), r_2.1)
      else bif (decide ((r_2.2.length : Int) > 1)) then k0 ((TClient.mk c.ID (wi64 (c.Now + (wi64 (i8 (b8 ((i8 y_1).tmod 15)))))) c.Epoch c.Seq c.Files c.Names c.Out c.Bad c.Hits c.Asks), r_2.1)
        else bif (decide ((wi64 ((wi64 (c.Now + (wi64 (i8 (b8 ((i8 y_1).tmod 15)))))) - last)) ≥ 10)) then (bif (inR 0 r_2.2.length) then (((r_2.2[0]?)).bind fun y_3 =>
              bif (inR 0 l.length) then (((l[0]?)).bind fun y_4 =>
                ((ref13_SameAsk n_ y_3 y_4)).bind fun r_5 =>
                bif (!r_5) then k0 ((TClient.mk c.ID (wi64 (c.Now + (wi64 (i8 (b8 ((i8 y_1).tmod 15)))))) c.Epoch c.Seq c.Files c.Names c.Out c.Bad c.Hits c.Asks), r_2.1)
                else bif (r_2.1.Seq != c.Seq) then k0 ((TClient.mk c.ID (wi64 (c.Now + (wi64 (i8 (b8 ((i8 y_1).tmod 15)))))) c.Epoch c.Seq c.Files c.Names c.Out c.Bad c.Hits c.Asks), r_2.1)
                  else bif (r_2.1.Out.First != 0) then k0 ((TClient.mk c.ID (wi64 (c.Now + (wi64 (i8 (b8 ((i8 y_1).tmod 15)))))) c.Epoch c.Seq c.Files c.Names c.Out c.Bad c.Hits c.Asks), r_2.1)
                    else bif (decide ((wi64 ((wi64 (c.Now + (wi64 (i8 (b8 ((i8 y_1).tmod 15)))))) - last)) ≥ 10)) then kc ((wi64 (c.Now + (wi64 (i8 (b8 ((i8 y_1).tmod 15)))))), (wi64 (i + 1)), r_2.1)
                      else kc (last, (wi64 (i + 1)), r_2.1))
              else none)
            else none)
          else bif (r_2.1.Seq != c.Seq) then k0 ((TClient.mk c.ID (wi64 (c.Now + (wi64 (i8 (b8 ((i8 y_1).tmod 15)))))) c.Epoch c.Seq c.Files c.Names c.Out c.Bad c.Hits c.Asks), r_2.1)
            else bif (r_2.1.Out.First != 0) then k0 ((TClient.mk c.ID (wi64 (c.Now + (wi64 (i8 (b8 ((i8 y_1).tmod 15)))))) c.Epoch c.Seq c.Files c.Names c.Out c.Bad c.Hits c.Asks), r_2.1)
              else bif (decide ((wi64 ((wi64 (c.Now + (wi64 (i8 (b8 ((i8 y_1).tmod 15)))))) - last)) ≥ 10)) then kc ((wi64 (c.Now + (wi64 (i8 (b8 ((i8 y_1).tmod 15)))))), (wi64 (i + 1)), r_2.1)
                else kc (last, (wi64 (i + 1)), r_2.1))
    else none)
  else k1 c
def law20_ClientAgain_s0 (gaps : List UInt8) (l : List TAsk) (o1 : TAns) (v_ : Int × Int × TClient) : Option ((Int × Int × TClient) ⊕ ((TClient × TClient) ⊕ TClient)) := law20_ClientAgain_s0k n_ gaps l o1 (fun x => some (.inl x)) (fun x => some (.inr (.inl x))) (fun x => some (.inr (.inr x))) v_.1 v_.2.1 v_.2.2
def law20_ClientAgain_l0 (gaps : List UInt8) (l : List TAsk) (o1 : TAns) (last : Int) (i : Int) (c : TClient) : Option ((TClient × TClient) ⊕ TClient) := iter (law20_ClientAgain_s0 n_ gaps l o1) n_ (last, i, c)
theorem law20_ClientAgain_s0_bind {α : Type} (gaps : List UInt8) (l : List TAsk) (o1 : TAns) (kc : (Int × Int × TClient) → Option α) (k0 : (TClient × TClient) → Option α) (k1 : TClient → Option α) (last : Int) (i : Int) (c : TClient) : law20_ClientAgain_s0k n_ gaps l o1 kc k0 k1 last i c = (law20_ClientAgain_s0 n_ gaps l o1 (last, i, c)).bind fun s_ => alt s_ kc (fun s0_ => alt s0_ k0 k1) := by
  unfold law20_ClientAgain_s0 law20_ClientAgain_s0k; simp only [bind_cond, Option.bind_assoc, alt_bind, Option.bind_some, Option.bind_none, alt_inl, alt_inr]
@[reducible] def law20_ClientAgain_k {α : Type} (k0 : Bool → Option α) (f : UInt8) (kind : UInt8) (gaps : List UInt8) : Option α :=
  ((law20_begun n_)).bind fun r_1 =>
  bif (!r_1) then k0 false
  else bif (decide ((gaps.length : Int) > 15)) then k0 true
    else bif (inR (i8 (b8 ((i8 kind).tmod 4))) 4) then ((([4, 5, 3, 8][(i8 (b8 ((i8 kind).tmod 4))).toNat]?)).bind fun y_2 =>
        ((client_Do n_ (client_New 3) (TStep.mk y_2 3 0 (wi64 (1 + (wi64 (i8 (b8 ((i8 f).tmod 6)))))) 0 0 0 [116] []))).bind fun r_3 =>
        bif ((r_3.2.2.length : Int) != 1) then k0 false
        else ((law20_ClientAgain_l0 n_ gaps r_3.2.2 r_3.2.1 0 0 r_3.1)).bind fun r_4 =>
          alt r_4 (fun a_5 =>
            k0 false) (fun b_6 =>
            bif (inR 0 r_3.2.2.length) then (((r_3.2.2[0]?)).bind fun y_7 =>
              ((ref13_PutTell n_ (TTell.mk 1 3 0 y_7.Seq 2 0 0 0 []))).bind fun r_8 =>
              ((client_Comes n_ b_6 r_8)).bind fun r_9 =>
              ((client_Run n_ (TClient.mk r_9.1.ID (wi64 (r_9.1.Now + 50)) r_9.1.Epoch r_9.1.Seq r_9.1.Files r_9.1.Names r_9.1.Out r_9.1.Bad r_9.1.Hits r_9.1.Asks))).bind fun r_10 =>
              bif ((wi64 ((r_9.2.length : Int) + (r_10.2.length : Int))) == 0) then k0 (!r_10.1.Out.Is)
              else k0 false)
            else none))
      else none
def law20_ClientAgain (f : UInt8) (kind : UInt8) (gaps : List UInt8) : Option Bool := law20_ClientAgain_k n_ (fun x => some x) f kind gaps
theorem law20_ClientAgain_bind {α : Type} (k0 : Bool → Option α) (f : UInt8) (kind : UInt8) (gaps : List UInt8) : law20_ClientAgain_k n_ k0 f kind gaps = (law20_ClientAgain n_ f kind gaps).bind k0 := by
  unfold law20_ClientAgain law20_ClientAgain_k; simp only [bind_cond, Option.bind_assoc, alt_bind, Option.bind_some, Option.bind_none, alt_inl, alt_inr]

/-! tenancy/tenancyref19.Valid -/
@[reducible] def ref19_Valid_k {α : Type} (k : Int → α) (c : TCache) (now : Int) : α :=
  bif (decide (now < c.Until)) then k c.Mode
  else k 0
def ref19_Valid (c : TCache) (now : Int) : Int := ref19_Valid_k id c now
theorem ref19_Valid_bind {α : Type} (k : Int → α) (c : TCache) (now : Int) : ref19_Valid_k k c now = k (ref19_Valid c now) := by
  unfold ref19_Valid ref19_Valid_k; simp only [Bool.apply_cond k, id]

/-! tenancy/tenancyref5.SameTexts -/
@[reducible] def ref5_SameTexts_s0k {α : Type} (a : List (List UInt8)) (b : List (List UInt8)) (kc : Int → Option α) (k0 : Unit → Option α) (k1 : Unit → Option α) (i : Int) : Option α :=
  bif (decide (i < (a.length : Int))) then (bif (inR i a.length) then (((a[i.toNat]?)).bind fun y_1 =>
      bif (inR i b.length) then (((b[i.toNat]?)).bind fun y_2 =>
        bif (!(y_1 == y_2)) then k0 ()
        else kc (wi64 (i + 1)))
      else none)
    else none)
  else k1 ()
def ref5_SameTexts_s0 (a : List (List UInt8)) (b : List (List UInt8)) (v_ : Int) : Option (Int ⊕ (Unit ⊕ Unit)) := ref5_SameTexts_s0k a b (fun x => some (.inl x)) (fun x => some (.inr (.inl x))) (fun x => some (.inr (.inr x))) v_
def ref5_SameTexts_l0 (a : List (List UInt8)) (b : List (List UInt8)) (i : Int) : Option (Unit ⊕ Unit) := iter (ref5_SameTexts_s0 a b) n_ i
theorem ref5_SameTexts_s0_bind {α : Type} (a : List (List UInt8)) (b : List (List UInt8)) (kc : Int → Option α) (k0 : Unit → Option α) (k1 : Unit → Option α) (i : Int) : ref5_SameTexts_s0k a b kc k0 k1 i = (ref5_SameTexts_s0 a b i).bind fun s_ => alt s_ kc (fun s0_ => alt s0_ k0 k1) := by
  unfold ref5_SameTexts_s0 ref5_SameTexts_s0k; simp only [bind_cond, Option.bind_assoc, alt_bind, Option.bind_some, Option.bind_none, alt_inl, alt_inr]
@[reducible] def ref5_SameTexts_k {α : Type} (k0 : Bool → Option α) (a : List (List UInt8)) (b : List (List UInt8)) : Option α :=
  bif ((a.length : Int) != (b.length : Int)) then k0 false
  else ((ref5_SameTexts_l0 n_ a b 0)).bind fun r_1 =>
    alt r_1 (fun a_2 =>
      k0 false) (fun b_3 =>
      k0 true)
def ref5_SameTexts (a : List (List UInt8)) (b : List (List UInt8)) : Option Bool := ref5_SameTexts_k n_ (fun x => some x) a b
theorem ref5_SameTexts_bind {α : Type} (k0 : Bool → Option α) (a : List (List UInt8)) (b : List (List UInt8)) : ref5_SameTexts_k n_ k0 a b = (ref5_SameTexts n_ a b).bind k0 := by
  unfold ref5_SameTexts ref5_SameTexts_k; simp only [bind_cond, Option.bind_assoc, alt_bind, Option.bind_some, Option.bind_none, alt_inl, alt_inr]

/-! tenancy/tenancyref19.SameCache -/
@[reducible] def ref19_SameCache_k {α : Type} (k0 : Bool → Option α) (a : TCache) (b : TCache) : Option α :=
  bif (a.Mode == b.Mode) then (bif (a.Until == b.Until) then (bif (a.Ver == b.Ver) then (bif (a.Body == b.Body) then (((ref7_SameWrites n_ a.Dirty b.Dirty)).bind fun r_1 =>
          bif r_1 then (bif (a.Sent == b.Sent) then (bif (a.Called == b.Called) then k0 (a.Lost == b.Lost)
              else k0 false)
            else k0 false)
          else k0 false)
        else k0 false)
      else k0 false)
    else k0 false)
  else k0 false
def ref19_SameCache (a : TCache) (b : TCache) : Option Bool := ref19_SameCache_k n_ (fun x => some x) a b
theorem ref19_SameCache_bind {α : Type} (k0 : Bool → Option α) (a : TCache) (b : TCache) : ref19_SameCache_k n_ k0 a b = (ref19_SameCache n_ a b).bind k0 := by
  unfold ref19_SameCache ref19_SameCache_k; simp only [bind_cond, Option.bind_assoc, alt_bind, Option.bind_some, Option.bind_none, alt_inl, alt_inr]

/-! tenancy/tenancyref19.SameClient -/
@[reducible] def ref19_SameClient_s0k {α : Type} (a : TClient) (b : TClient) (kc : Int → Option α) (k0 : Unit → Option α) (k1 : Unit → Option α) (i : Int) : Option α :=
  bif (decide (i < (a.Files.length : Int))) then (bif (inR i a.Files.length) then (((a.Files[i.toNat]?)).bind fun y_1 =>
      bif (inR i b.Files.length) then (((b.Files[i.toNat]?)).bind fun y_2 =>
        ((ref19_SameCache n_ y_1 y_2)).bind fun r_3 =>
        bif (!r_3) then k0 ()
        else kc (wi64 (i + 1)))
      else none)
    else none)
  else k1 ()
def ref19_SameClient_s0 (a : TClient) (b : TClient) (v_ : Int) : Option (Int ⊕ (Unit ⊕ Unit)) := ref19_SameClient_s0k n_ a b (fun x => some (.inl x)) (fun x => some (.inr (.inl x))) (fun x => some (.inr (.inr x))) v_
def ref19_SameClient_l0 (a : TClient) (b : TClient) (i : Int) : Option (Unit ⊕ Unit) := iter (ref19_SameClient_s0 n_ a b) n_ i
theorem ref19_SameClient_s0_bind {α : Type} (a : TClient) (b : TClient) (kc : Int → Option α) (k0 : Unit → Option α) (k1 : Unit → Option α) (i : Int) : ref19_SameClient_s0k n_ a b kc k0 k1 i = (ref19_SameClient_s0 n_ a b i).bind fun s_ => alt s_ kc (fun s0_ => alt s0_ k0 k1) := by
  unfold ref19_SameClient_s0 ref19_SameClient_s0k; simp only [bind_cond, Option.bind_assoc, alt_bind, Option.bind_some, Option.bind_none, alt_inl, alt_inr]
@[reducible] def ref19_SameClient_k {α : Type} (k0 : Bool → Option α) (a : TClient) (b : TClient) : Option α :=
  bif (a.ID != b.ID) then k0 false
  else bif (a.Now != b.Now) then k0 false
    else bif (a.Epoch != b.Epoch) then k0 false
      else bif (a.Seq != b.Seq) then k0 false
        else bif (a.Bad != b.Bad) then k0 false
          else bif (a.Hits != b.Hits) then k0 false
            else bif (a.Asks != b.Asks) then k0 false
              else bif ((a.Files.length : Int) != (b.Files.length : Int)) then k0 false
                else ((ref5_SameTexts n_ a.Names b.Names)).bind fun r_1 =>
                  bif (!r_1) then k0 false
                  else ((ref19_SameClient_l0 n_ a b 0)).bind fun r_2 =>
                    alt r_2 (fun a_3 =>
                      k0 false) (fun b_4 =>
                      bif (a.Out.Is == b.Out.Is) then (bif (a.Out.First == b.Out.First) then (bif (a.Out.Last == b.Out.Last) then (((ref13_SameAsk n_ a.Out.Ask b.Out.Ask)).bind fun r_5 =>
                            k0 r_5)
                          else k0 false)
                        else k0 false)
                      else k0 false)
def ref19_SameClient (a : TClient) (b : TClient) : Option Bool := ref19_SameClient_k n_ (fun x => some x) a b
theorem ref19_SameClient_bind {α : Type} (k0 : Bool → Option α) (a : TClient) (b : TClient) : ref19_SameClient_k n_ k0 a b = (ref19_SameClient n_ a b).bind k0 := by
  unfold ref19_SameClient ref19_SameClient_k; simp only [bind_cond, Option.bind_assoc, alt_bind, Option.bind_some, Option.bind_none, alt_inl, alt_inr]

/-! tenancy/tenancylaw20.ClientGives -/
@[reducible] def law20_ClientGives_s0k {α : Type} (picks : List UInt8) (n : Int) (o1 : TAns) (kc : (Int × TClient × List TWrite) → Option α) (k0 : (TClient × TWrite × TClient × TAns × List TWrite) → Option α) (k1 : (TClient × List TWrite) → Option α) (i : Int) (c : TClient) (want : List TWrite) : Option α :=
  bif (decide (i < (picks.length : Int))) then (bif (decide ((want.length : Int) < 5)) then (bif (inR i picks.length) then (((picks[i.toNat]?)).bind fun y_1 =>
        bif (inR i picks.length) then (((picks[i.toNat]?)).bind fun y_2 =>
          ((client_Do n_ c (TStep.mk 5 2 0 n (wi64 (i8 (b8 ((i8 y_1).tmod 20)))) 0 0 [(b8 (wu8 (97 + (i8 (b8 ((i8 y_2).tmod 26))))))] []))).bind fun r_3 =>
          bif (r_3.2.1.Err != 0) then k0 (c, (TWrite.mk (wi64 (i8 (b8 ((i8 y_1).tmod 20)))) [(b8 (wu8 (97 + (i8 (b8 ((i8 y_2).tmod 26))))))]), r_3.1, r_3.2.1, want)
          else bif (decide ((want.length + 1) ≤ lim)) then kc ((wi64 (i + 1)), r_3.1, (want ++ [(TWrite.mk (wi64 (i8 (b8 ((i8 y_1).tmod 20)))) [(b8 (wu8 (97 + (i8 (b8 ((i8 y_2).tmod 26))))))])]))
            else none)
        else none)
      else none)
    else k1 (c, want))
  else k1 (c, want)
def law20_ClientGives_s0 (picks : List UInt8) (n : Int) (o1 : TAns) (v_ : Int × TClient × List TWrite) : Option ((Int × TClient × List TWrite) ⊕ ((TClient × TWrite × TClient × TAns × List TWrite) ⊕ (TClient × List TWrite))) := law20_ClientGives_s0k n_ picks n o1 (fun x => some (.inl x)) (fun x => some (.inr (.inl x))) (fun x => some (.inr (.inr x))) v_.1 v_.2.1 v_.2.2
def law20_ClientGives_l0 (picks : List UInt8) (n : Int) (o1 : TAns) (i : Int) (c : TClient) (want : List TWrite) : Option ((TClient × TWrite × TClient × TAns × List TWrite) ⊕ (TClient × List TWrite)) := iter (law20_ClientGives_s0 n_ picks n o1) n_ (i, c, want)
theorem law20_ClientGives_s0_bind {α : Type} (picks : List UInt8) (n : Int) (o1 : TAns) (kc : (Int × TClient × List TWrite) → Option α) (k0 : (TClient × TWrite × TClient × TAns × List TWrite) → Option α) (k1 : (TClient × List TWrite) → Option α) (i : Int) (c : TClient) (want : List TWrite) : law20_ClientGives_s0k n_ picks n o1 kc k0 k1 i c want = (law20_ClientGives_s0 n_ picks n o1 (i, c, want)).bind fun s_ => alt s_ kc (fun s0_ => alt s0_ k0 k1) := by
  unfold law20_ClientGives_s0 law20_ClientGives_s0k; simp only [bind_cond, Option.bind_assoc, alt_bind, Option.bind_some, Option.bind_none, alt_inl, alt_inr]
@[reducible] def law20_ClientGives_s1k {α : Type} (n : Int) (m : List TAsk) (o0 : TClient) (o1 : TAns) (x : TClient) (want : List TWrite) (kc : Int → Option α) (k0 : Unit → Option α) (k1 : Unit → Option α) (i : Int) : Option α :=
  bif (decide (i < (want.length : Int))) then (bif (inR 0 m.length) then (((m[0]?)).bind fun y_1 =>
      bif (inR i y_1.Writes.length) then (((y_1.Writes[i.toNat]?)).bind fun y_2 =>
        bif (inR i want.length) then (((want[i.toNat]?)).bind fun y_3 =>
          bif (!(TWrite.eqb y_2 y_3)) then k0 ()
          else kc (wi64 (i + 1)))
        else none)
      else none)
    else none)
  else k1 ()
def law20_ClientGives_s1 (n : Int) (m : List TAsk) (o0 : TClient) (o1 : TAns) (x : TClient) (want : List TWrite) (v_ : Int) : Option (Int ⊕ (Unit ⊕ Unit)) := law20_ClientGives_s1k n m o0 o1 x want (fun x => some (.inl x)) (fun x => some (.inr (.inl x))) (fun x => some (.inr (.inr x))) v_
def law20_ClientGives_l1 (n : Int) (m : List TAsk) (o0 : TClient) (o1 : TAns) (x : TClient) (want : List TWrite) (i : Int) : Option (Unit ⊕ Unit) := iter (law20_ClientGives_s1 n m o0 o1 x want) n_ i
theorem law20_ClientGives_s1_bind {α : Type} (n : Int) (m : List TAsk) (o0 : TClient) (o1 : TAns) (x : TClient) (want : List TWrite) (kc : Int → Option α) (k0 : Unit → Option α) (k1 : Unit → Option α) (i : Int) : law20_ClientGives_s1k n m o0 o1 x want kc k0 k1 i = (law20_ClientGives_s1 n m o0 o1 x want i).bind fun s_ => alt s_ kc (fun s0_ => alt s0_ k0 k1) := by
  unfold law20_ClientGives_s1 law20_ClientGives_s1k; simp only [bind_cond, Option.bind_assoc, alt_bind, Option.bind_some, Option.bind_none, alt_inl, alt_inr]
@[reducible] def law20_ClientGives_k {α : Type} (k0 : Bool → Option α) (picks : List UInt8) (f : UInt8) : Option α :=
  ((law20_begun n_)).bind fun r_1 =>
  bif (!r_1) then k0 false
  else bif (decide ((picks.length : Int) > 12)) then k0 true
    else ((client_Do n_ (client_New 2) (TStep.mk 5 2 0 (wi64 (1 + (wi64 (i8 (b8 ((i8 f).tmod 6)))))) 0 0 0 [120] []))).bind fun r_2 =>
      bif ((r_2.2.2.length : Int) != 1) then k0 false
      else ((ref13_PutTell n_ (TTell.mk 1 2 0 1 0 (wi64 (1 + (wi64 (i8 (b8 ((i8 f).tmod 6)))))) 2 1 []))).bind fun r_3 =>
        ((client_Comes n_ r_2.1 r_3)).bind fun r_4 =>
        ((law20_ClientGives_l0 n_ picks (wi64 (1 + (wi64 (i8 (b8 ((i8 f).tmod 6)))))) r_2.2.1 0 r_4.1 [])).bind fun r_5 =>
        alt r_5 (fun a_6 =>
          k0 false) (fun b_7 =>
          ((ref13_PutTell n_ (TTell.mk 2 2 0 0 0 (wi64 (1 + (wi64 (i8 (b8 ((i8 f).tmod 6)))))) 0 0 []))).bind fun r_8 =>
          ((client_Comes n_ b_7.1 r_8)).bind fun r_9 =>
          bif ((r_9.2.length : Int) != 1) then k0 false
          else bif (inR 0 r_9.2.length) then (((r_9.2[0]?)).bind fun y_10 =>
              bif (y_10.Kind != 4) then k0 false
              else bif (inR 0 r_9.2.length) then (((r_9.2[0]?)).bind fun y_11 =>
                  bif (y_11.File != (wi64 (1 + (wi64 (i8 (b8 ((i8 f).tmod 6))))))) then k0 false
                  else bif (inR 0 r_9.2.length) then (((r_9.2[0]?)).bind fun y_12 =>
                      bif ((y_12.Writes.length : Int) != (b_7.2.length : Int)) then k0 false
                      else bif ((r_9.1.Files.length : Int) != 6) then k0 false
                        else bif (inR (wi64 ((wi64 (1 + (wi64 (i8 (b8 ((i8 f).tmod 6)))))) - 1)) r_9.1.Files.length) then (((r_9.1.Files[(wi64 ((wi64 (1 + (wi64 (i8 (b8 ((i8 f).tmod 6)))))) - 1)).toNat]?)).bind fun y_13 =>
                            bif ((ref19_Valid y_13 0) != 0) then k0 false
                            else bif (inR (wi64 ((wi64 (1 + (wi64 (i8 (b8 ((i8 f).tmod 6)))))) - 1)) r_9.1.Files.length) then (((r_9.1.Files[(wi64 ((wi64 (1 + (wi64 (i8 (b8 ((i8 f).tmod 6)))))) - 1)).toNat]?)).bind fun y_14 =>
                                bif ((y_14.Dirty.length : Int) != 0) then k0 false
                                else ((law20_ClientGives_l1 n_ (wi64 (1 + (wi64 (i8 (b8 ((i8 f).tmod 6)))))) r_9.2 b_7.1 r_2.2.1 r_9.1 b_7.2 0)).bind fun r_15 =>
                                  alt r_15 (fun a_16 =>
                                    k0 false) (fun b_17 =>
                                    ((ref13_PutTell n_ (TTell.mk 2 2 0 0 0 (wi64 (1 + (wi64 (i8 (b8 ((i8 f).tmod 6)))))) 0 0 []))).bind fun r_18 =>
                                    ((client_Comes n_ r_9.1 r_18)).bind fun r_19 =>
                                    bif ((r_19.2.length : Int) == 0) then (((ref19_SameClient n_ r_19.1 r_9.1)).bind fun r_20 =>
                                      k0 r_20)
                                    else k0 false))
                              else none)
                          else none)
                    else none)
                else none)
            else none)
def law20_ClientGives (picks : List UInt8) (f : UInt8) : Option Bool := law20_ClientGives_k n_ (fun x => some x) picks f
theorem law20_ClientGives_bind {α : Type} (k0 : Bool → Option α) (picks : List UInt8) (f : UInt8) : law20_ClientGives_k n_ k0 picks f = (law20_ClientGives n_ picks f).bind k0 := by
  unfold law20_ClientGives law20_ClientGives_k; simp only [bind_cond, Option.bind_assoc, alt_bind, Option.bind_some, Option.bind_none, alt_inl, alt_inr]

end
end Go.Proofs.YthabbcjjecpbmaaGreat.N
