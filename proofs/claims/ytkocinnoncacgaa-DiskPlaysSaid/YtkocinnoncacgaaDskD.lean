/- The disk: what lies in memory, and what its operations do. -/
import Derived.Test.YtkocinnoncacgaaMap
import Derived.Test.YtkocinnoncacgaaIter
import Derived.Test.YtkocinnoncacgaaStr
import Derived.Test.YtkocinnoncacgaaOpen
set_option linter.unusedVariables false
set_option linter.unusedSimpArgs false
namespace Go.Proofs.Ytkocinnoncacgaa.Dsk
open Go.RowKit Go.Proofs.Ytkocinnoncacgaa.Sx
abbrev Seg := List Int × Int
abbrev DM := List (Int × Seg)
def SE : Rep Seg := Rep.pair (Rep.slice (Rep.int .u8)) (Rep.int .i64)
def SV : VRep Seg := VRep.agg SE
def KI : KeyR Int := KeyR.int .i64
theorem seg_cells {w : World} {ok : Nat → Prop} {x : Seg} {cs : List Value} (h : SE.R w ok x cs) : ∃ A c, cs = [.slice A x.1.length c, .int .i64 x.2] ∧ Rd (.int .u8) w ok A x.1 c := by
  obtain ⟨c1, d1, rfl, ⟨A, c, rfl, hr⟩, h1⟩ := h
  have h1' : d1 = [.int .i64 x.2] := h1
  subst h1'
  exact ⟨A, c, rfl, hr⟩
theorem seg_open {w : World} {ok : Nat → Prop} {x : Seg} {v : Value} (h : SV.R w ok x v) : ∃ A c, v = .agg #[.slice A x.1.length c, .int .i64 x.2] ∧ Rd (.int .u8) w ok A x.1 c := by
  obtain ⟨cs, h, rfl⟩ := h
  obtain ⟨A, c, rfl, hr⟩ := seg_cells h
  exact ⟨A, c, rfl, hr⟩
theorem seg_mk {w : World} {ok : Nat → Prop} {x : Seg} {A : Option Addr} {c : Nat} (hr : Rd (.int .u8) w ok A x.1 c) : SV.R w ok x (.agg #[.slice A x.1.length c, .int .i64 x.2]) :=
  ⟨_, ⟨[.slice A x.1.length c], [.int .i64 x.2], rfl, ⟨A, c, rfl, hr⟩, rfl⟩, rfl⟩
theorem seg_zero {w : World} {ok : Nat → Prop} : SV.R w ok ([], 0) (.agg #[.slice none 0 0, .int .i64 0]) := seg_mk (x := ([], 0)) (Rd.nil _ _ _)
/-- A disk lies at bd. -/
def DiskA (T : TypeId) (bd : Nat) (m : DM) (rt : List Int) (X : Asn) : Prop :=
  ∃ (bm : Nat) (Ar : Option Addr) (cr : Nat) (okm okr : Nat → Prop), X = Asn.all [(1, .blk bd (.cells #[.map (some bm), .slice Ar rt.length cr] T (0, 0))), (2, .map KI SV bm m okm), (3, .rd_ (.int .u8) Ar rt cr okr)]
theorem disk_ro {T : TypeId} {bd bm : Nat} {m : DM} {rt : List Int} {Ar : Option Addr} {cr : Nat} {okm okr : Nat → Prop} {w : World} (h : (Asn.all [(1, .blk bd (.cells #[.map (some bm), .slice Ar rt.length cr] T (0, 0))), (2, .map KI SV bm m okm), (3, .rd_ (.int .u8) Ar rt cr okr)]).holds w) :
    Hp (fun _ => False) w w [(1, .ro (.blk bd (.cells #[.map (some bm), .slice Ar rt.length cr] T (0, 0)))), (2, .ro (.map KI SV bm m okm)), (3, .rd_ (.int .u8) Ar rt cr okr)] := by
  have h1 := ((Hp.ofAll h).roAny 1 rfl).roAny 2 rfl
  have h2 := h1.sub [(1, .ro (.blk bd (.cells #[.map (some bm), .slice Ar rt.length cr] T (0, 0)))), (2, .ro (.map KI SV bm m okm)), (3, .rd_ (.int .u8) Ar rt cr okr)] (sub_cons (sub_cons (sub_cons (sub_nil _) 3 rfl) 2 rfl) 1 rfl)
  have hno : ∀ k, OwnL [(1, .ro (.blk bd (.cells #[.map (some bm), .slice Ar rt.length cr] T (0, 0)))), (2, .ro (.map KI SV bm m okm)), (3, .rd_ (.int .u8) Ar rt cr okr)] k → False := own_cons (fun k h => h.elim) (own_cons (fun k h => h.elim) (own_cons (fun k h => h.elim) own_nil))
  exact ⟨Mods.refl _ _, h2.holds, fun i A hA k hk => (hno k ⟨i, A, hA, hk⟩).elim, h2.inb, h2.self, h2.sep⟩
/-! ### What the operations do -/
def getM (m : DM) (n : Int) : Seg := (al m n).getD ([], 0)
def hasM (m : DM) (n : Int) : Bool := (al m n).isSome
def appOk (m : DM) (n : Int) (b : List Int) : Bool := !decide (n < 0) && decide (b.length + (getM m n).1.length ≤ 1024) && (hasM m n || decide (m.length < 128))
def appM (m : DM) (n : Int) (b : List Int) : DM := if appOk m n b then mput m n ((getM m n).1 ++ b, (getM m n).2) else m
def appE (m : DM) (n : Int) (b : List Int) : Int := if appOk m n b then 0 else 31
def atE (m : DM) (n : Int) : Int := if hasM m n then 0 else 31
def syncM (m : DM) (n : Int) : DM := if hasM m n then mput m n ((getM m n).1, ((getM m n).1.length : Int)) else m
def cutOk (m : DM) (n k : Int) : Bool := hasM m n && !decide (k < 0) && decide (k ≤ ((getM m n).1.length : Int))
def cutM (m : DM) (n k : Int) : DM := if cutOk m n k then mput m n ((getM m n).1.take k.toNat, k) else m
def cutE (m : DM) (n k : Int) : Int := if cutOk m n k then 0 else 31
def remM (m : DM) (n : Int) : DM := if hasM m n then mdel m n else m
theorem has_no {m : DM} {n : Int} (h : (al m n).isSome = false) : al m n = none := by
  cases h' : al m n with
  | none => rfl
  | some x => rw [h'] at h; cases h
theorem has_yes {m : DM} {n : Int} (h : (al m n).isSome = true) : hasM m n = true := h
theorem at_no {m : DM} {n : Int} (h : (al m n).isSome = false) : atE m n = 31 := by unfold atE hasM; rw [h]; rfl
theorem at_yes {m : DM} {n : Int} (h : (al m n).isSome = true) : atE m n = 0 := by unfold atE hasM; rw [h]; rfl
def RowOut {α : Type} (E : Rep α) (T : TypeId) (w0 w' : World) (v : Value) (xs : List α) : Prop := Row E T w' (fun _ => False) v xs ∧ ∀ k, v.ownBlock = some k → w0.heap.size ≤ k
theorem RowOut.nil {α : Type} (E : Rep α) (T : TypeId) (w0 w' : World) : RowOut E T w0 w' (.slice none 0 0) [] := ⟨Row.nil _ _ _ _, fun k hk => by cases hk⟩
theorem Hp.rowOut {α : Type} {E : Rep α} {T : TypeId} {B : Nat → Prop} {w0 w w' : World} {H : List (Nat × Asn)} {v : Value} {xs : List α} (h : Hp B w0 w H) (l : Nat) (hm : Mods (fun _ => False) w w') (hr : RowOut E T w w' v xs) : Hp B w0 w' ((l, .row E T v xs (fun _ => False)) :: H) :=
  h.newRow l hm hr.1 hr.2 (fun k hk => hk.elim)
theorem Hp.out {α : Type} {E : Rep α} {T : TypeId} {w0 w : World} {H : List (Nat × Asn)} {v : Value} {xs : List α} (h : Hp (fun _ => False) w0 w H) (l : Nat) (hl : get H l = some (.row E T v xs (fun _ => False))) : RowOut E T w0 w v xs :=
  ⟨h.row l hl, fun k hk => (h.mine l _ hl k hk).resolve_left (fun h => h)⟩
theorem at_zero {m : DM} {n : Int} (h : atE m n = 0) : hasM m n = true := by
  unfold atE at h; cases h' : hasM m n with | true => rfl | false => rw [h'] at h; simp at h
theorem at_nonzero {m : DM} {n : Int} (h : ¬ atE m n = 0) : hasM m n = false := by
  unfold atE at h; cases h' : hasM m n with | false => rfl | true => rw [h'] at h; simp at h
theorem at_of {m : DM} {n : Int} (h : hasM m n = true) : atE m n = 0 := by unfold atE; rw [h]; rfl
theorem at_of_no {m : DM} {n : Int} (h : hasM m n = false) : atE m n = 31 := by unfold atE; rw [h]; rfl
theorem rem_yes {m : DM} {n : Int} (h : hasM m n = true) : remM m n = mdel m n := by unfold remM; rw [h]; rfl
theorem rem_no {m : DM} {n : Int} (h : hasM m n = false) : remM m n = m := by unfold remM; rw [h]; rfl
theorem sync_yes {m : DM} {n : Int} (h : hasM m n = true) : syncM m n = mput m n ((getM m n).1, ((getM m n).1.length : Int)) := by unfold syncM; rw [h]; rfl
theorem sync_no {m : DM} {n : Int} (h : hasM m n = false) : syncM m n = m := by unfold syncM; rw [h]; rfl
theorem cut_off {m : DM} {n k : Int} (h : cutOk m n k = false) : cutE m n k = 31 ∧ cutM m n k = m := by unfold cutE cutM; rw [h]; exact ⟨rfl, rfl⟩
theorem cut_none {m : DM} {n k : Int} (h : ¬ atE m n = 0) : atE m n = cutE m n k ∧ cutM m n k = m := by
  have h1 := at_nonzero h
  have h2 := cut_off (m := m) (n := n) (k := k) (by unfold cutOk; rw [h1]; rfl)
  exact ⟨(at_of_no h1).trans h2.1.symm, h2.2⟩
theorem cut_neg {m : DM} {n k : Int} (h : k < 0) : cutE m n k = 31 ∧ cutM m n k = m := cut_off (by unfold cutOk; rw [decide_eq_true h]; simp)
theorem cut_far {m : DM} {n k : Int} (h : ((getM m n).1.length : Int) < k) : cutE m n k = 31 ∧ cutM m n k = m := cut_off (by unfold cutOk; rw [decide_eq_false (p := k ≤ _) (by omega)]; simp)
theorem cut_on {m : DM} {n k : Int} (h : hasM m n = true) (h1 : ¬ k < 0) (h2 : ¬ ((getM m n).1.length : Int) < k) : cutOk m n k = true := by
  unfold cutOk; rw [h, decide_eq_false h1, decide_eq_true (by omega)]; rfl
theorem cut_yesE {m : DM} {n k : Int} (h : hasM m n = true) (h1 : ¬ k < 0) (h2 : ¬ ((getM m n).1.length : Int) < k) : cutE m n k = 0 := by unfold cutE; rw [cut_on h h1 h2]; rfl
theorem cut_yesM {m : DM} {n k : Int} (h : hasM m n = true) (h1 : ¬ k < 0) (h2 : ¬ ((getM m n).1.length : Int) < k) : cutM m n k = mput m n ((getM m n).1.take k.toNat, k) := by unfold cutM; rw [cut_on h h1 h2]; rfl
theorem app_off {m : DM} {n : Int} {b : List Int} (h : appOk m n b = false) : appE m n b = 31 ∧ appM m n b = m := by unfold appE appM; rw [h]; exact ⟨rfl, rfl⟩
theorem app_neg {m : DM} {n : Int} {b : List Int} (h : n < 0) : appE m n b = 31 ∧ appM m n b = m := app_off (by unfold appOk; rw [decide_eq_true h]; rfl)
theorem app_long {m : DM} {n : Int} {b : List Int} (h : 1024 - ((getM m n).1.length : Int) < b.length) : appE m n b = 31 ∧ appM m n b = m := app_off (by unfold appOk; rw [decide_eq_false (p := b.length + _ ≤ 1024) (by omega)]; simp)
theorem app_many {m : DM} {n : Int} {b : List Int} (h0 : (al m n).isSome = false) (h : 128 ≤ (m.length : Int)) : appE m n b = 31 ∧ appM m n b = m := app_off (by unfold appOk hasM; rw [h0, decide_eq_false (p := m.length < 128) (by omega)]; simp)
theorem app_on {m : DM} {n : Int} {b : List Int} (h : ¬ n < 0) (h1 : ¬ 1024 - ((getM m n).1.length : Int) < b.length) (h2 : (al m n).isSome = true ∨ ¬ 128 ≤ (m.length : Int)) : appE m n b = 0 ∧ appM m n b = mput m n ((getM m n).1 ++ b, (getM m n).2) := by
  have : appOk m n b = true := by
    unfold appOk hasM
    rw [decide_eq_false h, decide_eq_true (by omega)]
    rcases h2 with h2 | h2
    · rw [h2]; rfl
    · rw [decide_eq_true (by omega)]; simp
  unfold appE appM; rw [this]; exact ⟨rfl, rfl⟩
def swapE (b : List Int) : Int := if 1024 < b.length then 32 else 0
def swapR (rt b : List Int) : List Int := if 1024 < b.length then rt else b
theorem swap_yes {rt b : List Int} (h : ¬ (1024 : Int) < b.length) : swapE b = 0 ∧ swapR rt b = b := by unfold swapE swapR; rw [if_neg (by omega), if_neg (by omega)]; exact ⟨rfl, rfl⟩
theorem swap_no {rt b : List Int} (h : (1024 : Int) < b.length) : swapE b = 32 ∧ swapR rt b = rt := by unfold swapE swapR; rw [if_pos (by omega), if_pos (by omega)]; exact ⟨rfl, rfl⟩
def absI (c : Int) : Int := if c < 0 then 0 - (c + 1) else c
def rndI (c n : Int) : Int := (absI c).tmod n
theorem rnd_neg {c : Int} (h : c < 0) : 0 - (c + 1) = absI c := by unfold absI; rw [if_pos h]
theorem rnd_pos {c : Int} (h : ¬ c < 0) : c = absI c := by unfold absI; rw [if_neg h]
theorem rnd_range {c n : Int} (hn : 0 < n) : 0 ≤ rndI c n ∧ rndI c n < n := by
  have h : 0 ≤ absI c := by unfold absI; split <;> omega
  unfold rndI
  rw [Int.tmod_eq_emod_of_nonneg h]
  exact ⟨Int.emod_nonneg _ (by omega), Int.emod_lt_of_pos _ hn⟩
def EncI (w : World) (k : Int) (args : Array Value) (rdY : Nat → Prop) : Prop := args = #[.int .i64 k] ∧ ∀ i, ¬ rdY i
theorem keys_step {rest r1 r2 : DM} {p : Int × Seg} {pre ks : List Int} (h : rest = r1 ++ p :: r2) (hp : (pre ++ rest.map (·.1)).Perm ks) : ((pre ++ [p.1]) ++ (r1 ++ r2).map (·.1)).Perm ks := by
  refine List.Perm.trans ?_ hp
  rw [h, List.append_assoc]
  refine List.Perm.append_left _ ?_
  simp only [List.map_append, List.map_cons, List.singleton_append]
  exact List.perm_middle.symm
def sortI (xs : List Int) : List Int := xs.mergeSort fun x y => decide (x ≤ y)
theorem sortI_sorted (l : List Int) : (sortI l).Pairwise (fun a b => a ≤ b) := by
  have := List.pairwise_mergeSort (le := fun x y : Int => decide (x ≤ y)) (fun a b c h1 h2 => by simp at *; omega) (fun a b => by simp; omega) l
  exact this.imp (fun h => by simpa using h)
theorem sortI_perm {l l' : List Int} (h : l.Perm l') : sortI l = sortI l' :=
  List.Perm.eq_of_pairwise (le := fun a b => a ≤ b) (fun a b _ _ h1 h2 => by omega) (sortI_sorted l) (sortI_sorted l') (((List.mergeSort_perm l _).trans h).trans (List.mergeSort_perm l' _).symm)
/-! ### What a loss of power leaves -/
def keptI (m : DM) (keep : List Int) (i : Nat) (n : Int) : Int := (getM m n).2 + (if i < keep.length then rndI (gi keep (i : Int)) (((getM m n).1.length : Int) - (getM m n).2 + 1) else 0)
def lft (m : DM) (keep ks : List Int) (k : Nat) : List (Int × Int) := (List.range k).map fun (i : Nat) => (gi ks (i : Int), keptI m keep i (gi ks (i : Int)))
def outF (m : DM) (p : Int × Int) : Option (Int × Seg) := if 0 < p.2 then some (p.1, ((getM m p.1).1.take p.2.toNat, p.2)) else none
def outL (m : DM) (l : List (Int × Int)) : DM := l.filterMap (outF m)
def keysL (m : DM) : List Int := sortI (m.map (·.1))
def powL (m : DM) (keep : List Int) : DM := outL m (lft m keep (keysL m) (keysL m).length)
/-- What a disk keeps to. -/
structure DInv (m : DM) : Prop where
  keys : Keys m
  few : m.length ≤ 128
  seg : ∀ p ∈ m, 0 ≤ p.2.2 ∧ p.2.2 ≤ (p.2.1.length : Int) ∧ p.2.1.length ≤ 1024
theorem DInv.get {m : DM} (h : DInv m) (n : Int) : 0 ≤ (getM m n).2 ∧ (getM m n).2 ≤ ((getM m n).1.length : Int) ∧ (getM m n).1.length ≤ 1024 := by
  unfold getM
  cases ha : al m n with
  | none => simp
  | some x => exact h.seg _ (al_mem ha)
theorem keysL_perm (m : DM) : (keysL m).Perm (m.map (·.1)) := List.mergeSort_perm _ _
theorem keysL_nodup {m : DM} (h : Keys m) : (keysL m).Nodup := (keysL_perm m).nodup_iff.2 h
theorem keysL_length (m : DM) : (keysL m).length = m.length := by rw [(keysL_perm m).length_eq, List.length_map]
theorem has_of_key {m : DM} {n : Int} (h : n ∈ keysL m) : hasM m n = true := by
  unfold hasM
  cases ha : al m n with
  | some x => rfl
  | none => rw [al_none] at ha; exact absurd ((keysL_perm m).mem_iff.1 h) ha
theorem gi_mem {ks : List Int} {k : Nat} (h : k < ks.length) : gi ks (k : Int) ∈ ks := List.mem_of_getElem? (gi_some (xs := ks) (i := (k : Int)) (by omega) (by omega))
theorem gi_ne {ks : List Int} (hn : ks.Nodup) {i j : Nat} (hi : i < j) (hj : j < ks.length) : gi ks (i : Int) ≠ gi ks (j : Int) := by
  have e : ∀ q : Nat, q < ks.length → gi ks (q : Int) = ks[q]! := fun q hq => by
    have := gi_some (xs := ks) (i := (q : Int)) (by omega) (by omega)
    rw [Int.toNat_natCast, List.getElem?_eq_getElem hq] at this
    rw [getElem!_pos ks q hq]; exact (Option.some.inj this).symm
  rw [e i (by omega), e j hj, getElem!_pos ks i (by omega), getElem!_pos ks j hj]
  exact List.pairwise_iff_getElem.1 hn i j (by omega) hj hi
theorem mput_new {κ α : Type} [DecidableEq κ] {m : List (κ × α)} {k : κ} (h : al m k = none) (x : α) : mput m k x = m ++ [(k, x)] := by
  induction m with
  | nil => rfl
  | cons p m ih =>
    unfold al at h
    split at h
    · cases h
    · rename_i hp; unfold mput; rw [if_neg hp, ih h]; rfl
theorem mput_mput {κ α : Type} [DecidableEq κ] (m : List (κ × α)) (k : κ) (x y : α) : mput (mput m k x) k y = mput m k y := by
  induction m with
  | nil => simp [mput]
  | cons p m ih =>
    unfold mput
    by_cases hp : p.1 = k
    · simp [hp, mput]
    · simp only [if_neg hp, mput]; rw [ih]
theorem lft_none {m : DM} {keep ks : List Int} {k : Nat} (hn : ks.Nodup) (hk : k < ks.length) : al (lft m keep ks k) (gi ks (k : Int)) = none := by
  rw [al_none]
  unfold lft
  rw [List.map_map]
  intro h
  obtain ⟨i, hi, he⟩ := List.mem_map.1 h
  exact gi_ne hn (List.mem_range.1 hi) hk he
theorem lft_succ {m : DM} {keep ks : List Int} {k : Nat} (hn : ks.Nodup) (hk : k < ks.length) : mput (lft m keep ks k) (gi ks (k : Int)) (keptI m keep k (gi ks (k : Int))) = lft m keep ks (k + 1) := by
  rw [mput_new (lft_none hn hk)]
  unfold lft
  rw [List.range_succ, List.map_append]
  rfl
theorem lft_no {m : DM} {keep ks : List Int} {k : Nat} (hn : ks.Nodup) (hk : k < ks.length) (h : ¬ (k : Int) < keep.length) : mput (lft m keep ks k) (gi ks (k : Int)) (getM m (gi ks (k : Int))).2 = lft m keep ks (k + 1) := by
  rw [← lft_succ hn hk]
  congr 1
  unfold keptI
  rw [if_neg (by omega), Int.add_zero]
theorem lft_yes {m : DM} {keep ks : List Int} {k : Nat} (hn : ks.Nodup) (hk : k < ks.length) (h : (k : Int) < keep.length) : mput (mput (lft m keep ks k) (gi ks (k : Int)) (getM m (gi ks (k : Int))).2) (gi ks (k : Int)) (((al (mput (lft m keep ks k) (gi ks (k : Int)) (getM m (gi ks (k : Int))).2) (gi ks (k : Int))).getD 0) + rndI (gi keep (k : Int)) (((getM m (gi ks (k : Int))).1.length : Int) - (getM m (gi ks (k : Int))).2 + 1)) = lft m keep ks (k + 1) := by
  rw [mput_mput, ← lft_succ hn hk, al_put, if_pos rfl]
  congr 1
  unfold keptI
  rw [if_pos (by omega)]
  rfl
/-- What the first loop's map keeps to. -/
theorem lft_ok {m : DM} (h : DInv m) {keep : List Int} {k : Nat} (hk : k ≤ (keysL m).length) : ∀ p ∈ lft m keep (keysL m) k, 0 ≤ p.2 ∧ p.2 ≤ ((getM m p.1).1.length : Int) ∧ hasM m p.1 = true := by
  intro p hp
  unfold lft at hp
  obtain ⟨i, hi, rfl⟩ := List.mem_map.1 hp
  have hi' := List.mem_range.1 hi
  have hg := h.get (gi (keysL m) (i : Int))
  refine ⟨?_, ?_, has_of_key (gi_mem (by omega))⟩
  · unfold keptI
    simp only
    split
    · have := (rnd_range (c := gi keep (i : Int)) (n := ((getM m (gi (keysL m) (i : Int))).1.length : Int) - (getM m (gi (keysL m) (i : Int))).2 + 1) (by omega)).1
      omega
    · omega
  · unfold keptI
    simp only
    split
    · have := (rnd_range (c := gi keep (i : Int)) (n := ((getM m (gi (keysL m) (i : Int))).1.length : Int) - (getM m (gi (keysL m) (i : Int))).2 + 1) (by omega)).2
      omega
    · omega
theorem lft_keys {m : DM} {keep ks : List Int} (hn : ks.Nodup) : ∀ k, k ≤ ks.length → ((lft m keep ks k).map (·.1)).Nodup
  | 0, _ => by simp [lft]
  | k + 1, hk => by
    rw [← lft_succ hn (by omega)]
    exact Keys.put (lft_keys hn k (by omega)) _ _
theorem out_sub (m : DM) : ∀ l : List (Int × Int), ((outL m l).map (·.1)).Sublist (l.map (·.1))
  | [] => List.Sublist.slnil
  | p :: l => by
    unfold outL
    rw [List.filterMap_cons]
    unfold outF
    split
    · rename_i h; exact (out_sub m l).cons _
    · rename_i q h
      split at h
      · cases h; exact (out_sub m l).cons_cons _
      · cases h
theorem out_keys {m : DM} {l : List (Int × Int)} (h : (l.map (·.1)).Nodup) : Keys (outL m l) := h.sublist (out_sub m l)
theorem powL_keys {m : DM} (h : Keys m) (keep : List Int) : Keys (powL m keep) := out_keys (lft_keys (keysL_nodup h) _ (Nat.le_refl _))
theorem out_none {m mo l' : DM} {rest r1 r2 : List (Int × Int)} {p : Int × Int} (h : rest = r1 ++ p :: r2) (hp : (mo ++ outL m rest).Perm l') (h0 : ¬ 0 < p.2) : (mo ++ outL m (r1 ++ r2)).Perm l' := by
  refine List.Perm.trans ?_ hp
  rw [h]
  unfold outL
  rw [List.filterMap_append, List.filterMap_append, List.filterMap_cons]
  unfold outF
  simp only [if_neg h0]
  exact List.Perm.refl _
theorem out_put {m mo : DM} {rest r1 r2 : List (Int × Int)} {p : Int × Int} {l' : DM} (hk : Keys l') (h : rest = r1 ++ p :: r2) (hp : (mo ++ outL m rest).Perm l') (h0 : 0 < p.2) : (mput mo p.1 ((getM m p.1).1.take p.2.toNat, p.2) ++ outL m (r1 ++ r2)).Perm l' := by
  have e : outL m rest = outL m r1 ++ (p.1, ((getM m p.1).1.take p.2.toNat, p.2)) :: outL m r2 := by
    rw [h]
    unfold outL
    rw [List.filterMap_append, List.filterMap_cons]
    unfold outF
    simp only [if_pos h0]
  have hkeys : Keys (mo ++ outL m rest) := (hp.map _).nodup_iff.2 hk
  have hno : al mo p.1 = none := by
    rw [al_none]
    intro hm
    unfold Keys at hkeys
    rw [List.map_append, List.nodup_append] at hkeys
    exact hkeys.2.2 p.1 hm p.1 (by rw [e]; simp) rfl
  rw [mput_new hno]
  refine List.Perm.trans ?_ hp
  rw [e]
  have e2 : outL m (r1 ++ r2) = outL m r1 ++ outL m r2 := by unfold outL; rw [List.filterMap_append]
  rw [e2, List.append_assoc]
  refine List.Perm.append_left _ ?_
  rw [List.singleton_append]
  exact List.perm_middle.symm
/-! ### Piece by piece -/
def cat (l : List (List Int)) : Nat → List Int
  | 0 => []
  | k + 1 => if (cat l k).length + (gb l (k : Int)).length ≤ 1024 then cat l k ++ gb l (k : Int) else cat l k
theorem cat_succ (l : List (List Int)) (k : Nat) : cat l (k + 1) = if (cat l k).length + (gb l (k : Int)).length ≤ 1024 then cat l k ++ gb l (k : Int) else cat l k := rfl
theorem cat_le (l : List (List Int)) : ∀ k, (cat l k).length ≤ 1024
  | 0 => by simp [cat]
  | k + 1 => by
    rw [cat_succ]
    split
    · rw [List.length_append]; assumption
    · exact cat_le l k
def pm (n : Int) (l : List (List Int)) (k : Nat) : DM := if k = 0 then [] else [(n, (cat l k, 0))]
theorem pm_get (n : Int) (l : List (List Int)) (k : Nat) : getM (pm n l k) n = (cat l k, 0) := by
  unfold pm getM
  cases k with
  | zero => simp [al, cat]
  | succ k => rw [if_neg (by omega)]; simp [al]
theorem pm_has {n : Int} {l : List (List Int)} {k : Nat} (h : 0 < k) : hasM (pm n l k) n = true := by
  unfold pm hasM
  rw [if_neg (by omega)]; simp [al]
theorem pm_ok {n : Int} (h0 : ¬ n < 0) {l : List (List Int)} {k : Nat} : appOk (pm n l k) n (gb l (k : Int)) = decide ((gb l (k : Int)).length + (cat l k).length ≤ 1024) := by
  have hm : (pm n l k).length < 128 := by unfold pm; split <;> simp
  unfold appOk
  rw [decide_eq_false h0, pm_get, decide_eq_true hm]
  simp
theorem pm_step {n : Int} (h0 : ¬ n < 0) {l : List (List Int)} {k : Nat} (hl : (gb l (k : Int)).length ≤ 300) : appM (pm n l k) n (gb l (k : Int)) = pm n l (k + 1) := by
  unfold appM
  rw [pm_ok h0, pm_get]
  have e : pm n l (k + 1) = [(n, (cat l (k + 1), 0))] := by unfold pm; rw [if_neg (by omega)]
  rw [e, cat_succ]
  by_cases h : (gb l (k : Int)).length + (cat l k).length ≤ 1024
  · rw [decide_eq_true h, if_pos rfl, if_pos (by omega)]
    unfold pm
    split
    · rename_i hk; subst hk; rfl
    · simp [mput]
  · rw [decide_eq_false h, if_neg (by simp), if_neg (by omega)]
    have hk : k ≠ 0 := by rintro rfl; simp [cat] at h hl; omega
    unfold pm
    rw [if_neg hk]
theorem pm_err {n : Int} (h0 : ¬ n < 0) {l : List (List Int)} {k : Nat} : appE (pm n l k) n (gb l (k : Int)) = if (cat l k).length + (gb l (k : Int)).length ≤ 1024 then 0 else 31 := by
  unfold appE
  rw [pm_ok h0]
  by_cases h : (cat l k).length + (gb l (k : Int)).length ≤ 1024
  · rw [if_pos h, decide_eq_true (by omega)]; rfl
  · rw [if_neg h, decide_eq_false (by omega)]; rfl
theorem cat_yes {l : List (List Int)} {k : Nat} (h : (cat l k).length + (gb l (k : Int)).length ≤ 1024) : cat l k ++ gb l (k : Int) = cat l (k + 1) := by rw [cat_succ, if_pos h]
theorem cat_no {l : List (List Int)} {k : Nat} (h : ¬ (cat l k).length + (gb l (k : Int)).length ≤ 1024) : cat l k = cat l (k + 1) := by rw [cat_succ, if_neg h]
def pm2 (n : Int) (l : List (List Int)) (K : Nat) (q : Int) : DM := [(n, ((cat l K).take q.toNat, q))]
theorem pm_cut {n : Int} {l : List (List Int)} {K : Nat} {q : Int} (h : 0 < K) (h0 : 0 ≤ q) (h1 : q ≤ ((cat l K).length : Int)) : cutM (pm n l K) n q = pm2 n l K q ∧ cutE (pm n l K) n q = 0 := by
  have hh := pm_has (n := n) (l := l) h
  refine ⟨?_, cut_yesE hh (by omega) (by rw [pm_get]; dsimp only; omega)⟩
  rw [cut_yesM hh (by omega) (by rw [pm_get]; dsimp only; omega), pm_get]
  unfold pm pm2
  rw [if_neg (by omega)]
  simp [mput]
theorem pm2_get (n : Int) (l : List (List Int)) (K : Nat) (q : Int) : getM (pm2 n l K q) n = ((cat l K).take q.toNat, q) := by unfold getM pm2; simp [al]
theorem pm2_at (n : Int) (l : List (List Int)) (K : Nat) (q : Int) : atE (pm2 n l K q) n = 0 := by unfold atE hasM pm2; simp [al]
theorem pm_at {n : Int} {l : List (List Int)} {K : Nat} (h : 0 < K) : atE (pm n l K) n = 0 := at_of (pm_has h)
theorem pm_at0 (n : Int) (l : List (List Int)) : atE (pm n l 0) n = 31 := by unfold atE hasM pm; simp [al]
theorem pm_small (n : Int) (l : List (List Int)) (K : Nat) : ∀ i, (getM (pm n l K) i).1.length ≤ 100000000 := by
  intro i
  have := cat_le l K
  unfold pm getM
  split
  · simp [al]
  · simp only [al]; split <;> simp; omega
theorem pm2_small (n : Int) (l : List (List Int)) (K : Nat) (q : Int) : ∀ i, (getM (pm2 n l K q) i).1.length ≤ 100000000 := by
  intro i
  have := cat_le l K
  unfold pm2 getM
  simp only [al]; split <;> simp; omega
theorem pieces_ne {n m : Nat} : (!decide ((if n + m ≤ 1024 then (0 : Int) else 31) = 0) == decide ((n : Int) + (m : Int) ≤ 1024)) = false := by
  by_cases h : n + m ≤ 1024
  · rw [if_pos h, decide_eq_true (show (n : Int) + m ≤ 1024 by omega)]; rfl
  · rw [if_neg h, decide_eq_false (show ¬ (n : Int) + m ≤ 1024 by omega)]; rfl
theorem pieces_yes {n : Nat} (h : (if n ≤ 1024 then (0 : Int) else 31) = 0) : n ≤ 1024 := by
  split at h
  · assumption
  · cases h
theorem pieces_no {n : Nat} (h : ¬ (if n ≤ 1024 then (0 : Int) else 31) = 0) : ¬ n ≤ 1024 := by
  intro h2; rw [if_pos h2] at h; exact h rfl
/-! ### Acts -/
abbrev ActD := Int × Int × Int × List Int × List Int
def ActE : Rep ActD := Rep.pair (Rep.int .i64) (Rep.pair (Rep.int .i64) (Rep.pair (Rep.int .i64) (Rep.pair (Rep.slice (Rep.int .u8)) (Rep.slice (Rep.int .i64)))))
theorem act_cells {w : World} {ok : Nat → Prop} {x : ActD} {cs : List Value} (h : ActE.R w ok x cs) : ∃ Ab cb Ak ck, cs = [.int .i64 x.1, .int .i64 x.2.1, .int .i64 x.2.2.1, .slice Ab x.2.2.2.1.length cb, .slice Ak x.2.2.2.2.length ck] ∧ Rd (.int .u8) w ok Ab x.2.2.2.1 cb ∧ Rd (.int .i64) w ok Ak x.2.2.2.2 ck := by
  obtain ⟨c1, d1, rfl, h1, c2, d2, rfl, h2, c3, d3, rfl, h3, c4, d4, rfl, ⟨Ab, cb, rfl, hb⟩, Ak, ck, rfl, hk⟩ := h
  have h1' : c1 = [.int .i64 x.1] := h1
  have h2' : c2 = [.int .i64 x.2.1] := h2
  have h3' : c3 = [.int .i64 x.2.2.1] := h3
  subst h1' h2' h3'
  exact ⟨Ab, cb, Ak, ck, rfl, hb, hk⟩
theorem act_open {w : World} {ok : Nat → Prop} {x : ActD} {v : Value} (h : ActE.R w ok x v.cells.toList) : ∃ Ab cb Ak ck, v = .agg #[.int .i64 x.1, .int .i64 x.2.1, .int .i64 x.2.2.1, .slice Ab x.2.2.2.1.length cb, .slice Ak x.2.2.2.2.length ck] ∧ Rd (.int .u8) w ok Ab x.2.2.2.1 cb ∧ Rd (.int .i64) w ok Ak x.2.2.2.2 ck := by
  obtain ⟨Ab, cb, Ak, ck, hc, hb, hk⟩ := act_cells h
  exact ⟨Ab, cb, Ak, ck, agg_of_cells hc (by simp), hb, hk⟩
def ga (xs : List ActD) (i : Int) : ActD := xs.getD i.toNat (0, 0, 0, [], [])
theorem ga_some {xs : List ActD} {i : Int} (h0 : 0 ≤ i) (h1 : i < xs.length) : xs[i.toNat]? = some (ga xs i) := by
  have hi : i.toNat < xs.length := by omega
  simp [ga, List.getD_eq_getElem?_getD, List.getElem?_eq_getElem hi]
theorem rd_act {w : World} {ok : Nat → Prop} {A : Option Addr} {xs : List ActD} {c : Nat} (hr : Rd ActE w ok A xs c) {i : Nat} {f : ActD} (hx : xs[i]? = some f) : ∃ A0 c0 A1 c1, Rd (.int .u8) w ok A0 f.2.2.2.1 c0 ∧ Rd (.int .i64) w ok A1 f.2.2.2.2 c1 ∧ w.cell? (adr A (i * 5)) = some (.int .i64 f.1) ∧ w.cell? (adr A (i * 5 + 1)) = some (.int .i64 f.2.1) ∧ w.cell? (adr A (i * 5 + 2)) = some (.int .i64 f.2.2.1) ∧ w.cell? (adr A (i * 5 + 3)) = some (.slice A0 f.2.2.2.1.length c0) ∧ w.cell? (adr A (i * 5 + 4)) = some (.slice A1 f.2.2.2.2.length c1) ∧
    (∀ j u, (#[.int .i64 f.1, .int .i64 f.2.1, .int .i64 f.2.2.1, .slice A0 f.2.2.2.1.length c0, .slice A1 f.2.2.2.2.length c1] : Array Value).toList[j]? = some u → w.cell? ((adr A (i * 5)).add j) = some u) := by
  obtain ⟨cs, hR, hc⟩ := hr.cellsA (n := 5) rfl hx
  obtain ⟨A0, c0, A1, c1, rfl, hb, hk⟩ := act_cells hR
  obtain ⟨b, off, rfl⟩ := hr.some_ (by have := (List.getElem?_eq_some_iff.1 hx).1; omega)
  have e : ∀ q, adr (some (⟨b, off, Option.none⟩ : Addr)) q = ⟨b, off + q, Option.none⟩ := fun q => by simp only [adr, Option.getD_some]; exact add_off _ _ _
  have g : ∀ j u, [Value.int .i64 f.1, .int .i64 f.2.1, .int .i64 f.2.2.1, .slice A0 f.2.2.2.1.length c0, .slice A1 f.2.2.2.2.length c1][j]? = some u → w.cell? (adr (some (⟨b, off, Option.none⟩ : Addr)) (i * 5 + j)) = some u := fun j u hj => by
    have := hc j u hj
    rw [e, add_off] at this
    rw [e, ← Nat.add_assoc]; exact this
  exact ⟨A0, c0, A1, c1, hb, hk, g 0 _ rfl, g 1 _ rfl, g 2 _ rfl, g 3 _ rfl, g 4 _ rfl, fun j u hj => hc j u hj⟩
/-! ### Segments are apart -/
theorem put_seg {m : DM} {k : Int} {x : Seg} {p : Int × Seg} (h : p ∈ mput m k x) : p = (k, x) ∨ p ∈ m := by
  induction m with
  | nil => simpa [mput] using h
  | cons q m ih =>
    unfold mput at h
    split at h
    · rcases List.mem_cons.1 h with rfl | h
      · exact .inl rfl
      · exact .inr (List.mem_cons_of_mem _ h)
    · rcases List.mem_cons.1 h with rfl | h
      · exact .inr (by simp)
      · exact (ih h).imp id (List.mem_cons_of_mem _)
theorem DInv.app {m : DM} (h : DInv m) (n : Int) (b : List Int) : DInv (appM m n b) := by
  unfold appM
  split
  · rename_i ho
    unfold appOk at ho
    simp only [Bool.and_eq_true, Bool.or_eq_true, decide_eq_true_eq, Bool.not_eq_true', decide_eq_false_iff_not] at ho
    obtain ⟨⟨h0, h1⟩, h2⟩ := ho
    have hg := h.get n
    refine ⟨h.keys.put _ _, ?_, fun p hp => ?_⟩
    · rw [mput_length]
      split
      · exact h.few
      · rename_i hs
        rcases h2 with h2 | h2
        · exact absurd h2 hs
        · omega
    · rcases put_seg hp with rfl | hp
      · dsimp only; rw [List.length_append]; omega
      · exact h.seg p hp
  · exact h
theorem DInv.sync {m : DM} (h : DInv m) (n : Int) : DInv (syncM m n) := by
  unfold syncM
  split
  · rename_i ho
    have hg := h.get n
    refine ⟨h.keys.put _ _, ?_, fun p hp => ?_⟩
    · rw [mput_length, if_pos (show (al m n).isSome = true from ho)]; exact h.few
    · rcases put_seg hp with rfl | hp
      · dsimp only; omega
      · exact h.seg p hp
  · exact h
theorem DInv.cut {m : DM} (h : DInv m) (n k : Int) : DInv (cutM m n k) := by
  unfold cutM
  split
  · rename_i ho
    unfold cutOk at ho
    simp only [Bool.and_eq_true, decide_eq_true_eq, Bool.not_eq_true', decide_eq_false_iff_not] at ho
    have hg := h.get n
    refine ⟨h.keys.put _ _, ?_, fun p hp => ?_⟩
    · rw [mput_length, if_pos (show (al m n).isSome = true from ho.1.1)]; exact h.few
    · rcases put_seg hp with rfl | hp
      · dsimp only; rw [List.length_take]; omega
      · exact h.seg p hp
  · exact h
theorem mdel_length {m : DM} {n : Int} : (mdel m n).length ≤ m.length := by
  induction m with
  | nil => exact Nat.le_refl _
  | cons p m ih => unfold mdel; split <;> simp only [List.length_cons] <;> omega
theorem DInv.rem {m : DM} (h : DInv m) (n : Int) : DInv (remM m n) := by
  unfold remM
  split
  · exact ⟨h.keys.del _, Nat.le_trans mdel_length h.few, fun p hp => h.seg p (mdel_sub p hp)⟩
  · exact h
theorem DInv.nil : DInv [] := ⟨by unfold Keys; simp, by simp, by simp⟩
theorem swap_le {rt b : List Int} (h : rt.length ≤ 1024) : (swapR rt b).length ≤ 1024 := by unfold swapR; split <;> omega
/-- All but one as before. -/
def SameBut (n : Int) (m m' : DM) : Prop := ∀ i, i ≠ n → al m' i = al m i
theorem same_put {m : DM} {n : Int} {x : Seg} : SameBut n m (mput m n x) := fun i hi => by rw [al_put, if_neg (Ne.symm hi)]
theorem same_app (m : DM) (n : Int) (b : List Int) : SameBut n m (appM m n b) := by unfold appM; split; exact same_put; exact fun _ _ => rfl
theorem same_sync (m : DM) (n : Int) : SameBut n m (syncM m n) := by unfold syncM; split; exact same_put; exact fun _ _ => rfl
theorem same_cut (m : DM) (n k : Int) : SameBut n m (cutM m n k) := by unfold cutM; split; exact same_put; exact fun _ _ => rfl
theorem same_rem {m : DM} (h : Keys m) (n : Int) : SameBut n m (remM m n) := by
  unfold remM; split
  · exact fun i hi => by rw [al_del h, if_neg (Ne.symm hi)]
  · exact fun _ _ => rfl
theorem SameBut.get {n : Int} {m m' : DM} (h : SameBut n m m') {i : Int} (hi : i ≠ n) : getM m' i = getM m i ∧ hasM m' i = hasM m i := by unfold getM hasM; rw [h i hi]; exact ⟨rfl, rfl⟩
def wasL (m : DM) (j : Nat) : List ByteArray := ((keysL m).take j).map fun n => strOfNums (getM m n).1
theorem was_step {m : DM} {j : Nat} (h : j < (keysL m).length) : wasL m j ++ [strOfNums (getM m (gi (keysL m) (j : Int))).1] = wasL m (j + 1) := by
  unfold wasL
  have := gi_some (xs := keysL m) (i := (j : Int)) (by omega) (by omega)
  rw [Int.toNat_natCast] at this
  rw [List.take_add_one, this, List.map_append]
  rfl
theorem was_len (m : DM) {j : Nat} (h : j ≤ (keysL m).length) : (wasL m j).length = j := by unfold wasL; rw [List.length_map, List.length_take]; omega
theorem was_at {m : DM} {j : Nat} (h : j < (keysL m).length) : gs (wasL m (keysL m).length) (j : Int) = strOfNums (getM m (gi (keysL m) (j : Int))).1 := by
  have h1 := gs_some (xs := wasL m (keysL m).length) (i := (j : Int)) (by omega) (by rw [was_len m (Nat.le_refl _)]; omega)
  unfold wasL at h1 ⊢
  rw [List.take_length] at h1 ⊢
  rw [List.getElem?_map, gi_some (xs := keysL m) (i := (j : Int)) (by omega) (by omega)] at h1
  exact (Option.some.inj h1).symm
/-! ### What is safe is kept -/
def allB (l : List (List (List Int))) (i : Nat) : List Int := gb (gp l (i : Int)) 0 ++ gb (gp l (i : Int)) 1
def dmS (l : List (List (List Int))) (k : Nat) : DM := (List.range k).map fun (i : Nat) => (3 * (i : Int), (allB l i, ((gb (gp l (i : Int)) 0).length : Int)))
theorem dmS_none (l : List (List (List Int))) (k : Nat) : al (dmS l k) (3 * (k : Int)) = none := by
  rw [al_none]
  unfold dmS
  rw [List.map_map]
  intro h
  obtain ⟨i, hi, he⟩ := List.mem_map.1 h
  have := List.mem_range.1 hi
  simp only [Function.comp] at he
  omega
theorem dmS_succ (l : List (List (List Int))) (k : Nat) : dmS l (k + 1) = mput (dmS l k) (3 * (k : Int)) (allB l k, ((gb (gp l (k : Int)) 0).length : Int)) := by
  rw [mput_new (dmS_none l k)]
  unfold dmS
  rw [List.range_succ, List.map_append]
  rfl
theorem dmS_at (l : List (List (List Int))) : ∀ (k i : Nat), i < k → al (dmS l k) (3 * (i : Int)) = some (allB l i, ((gb (gp l (i : Int)) 0).length : Int))
  | 0, i, h => absurd h (by omega)
  | k + 1, i, h => by
    rw [dmS_succ, al_put]
    by_cases e : i = k
    · subst e; rw [if_pos rfl]
    · rw [if_neg (by omega)]; exact dmS_at l k i (by omega)
theorem dmS_len (l : List (List (List Int))) (k : Nat) : (dmS l k).length = k := by unfold dmS; simp
theorem dmS_step {l : List (List (List Int))} {k : Nat} (hk : k < 20) (h0 : (gb (gp l (k : Int)) 0).length ≤ 250) (h1 : (gb (gp l (k : Int)) 1).length ≤ 250) :
    appM (syncM (appM (dmS l k) (3 * (k : Int)) (gb (gp l (k : Int)) 0)) (3 * (k : Int))) (3 * (k : Int)) (gb (gp l (k : Int)) 1) = dmS l (k + 1) := by
  have hn := dmS_none l k
  have g0 : getM (dmS l k) (3 * (k : Int)) = ([], 0) := by unfold getM; rw [hn]; rfl
  have a1 : appM (dmS l k) (3 * (k : Int)) (gb (gp l (k : Int)) 0) = mput (dmS l k) (3 * (k : Int)) (gb (gp l (k : Int)) 0, 0) := by
    have := (app_on (m := dmS l k) (n := 3 * (k : Int)) (b := gb (gp l (k : Int)) 0) (by omega) (by rw [g0]; simp; omega) (.inr (by rw [dmS_len]; omega))).2
    rw [this, g0]; rfl
  have g1 : getM (mput (dmS l k) (3 * (k : Int)) (gb (gp l (k : Int)) 0, 0)) (3 * (k : Int)) = (gb (gp l (k : Int)) 0, 0) := by unfold getM; rw [al_put, if_pos rfl]; rfl
  have s1 : syncM (mput (dmS l k) (3 * (k : Int)) (gb (gp l (k : Int)) 0, 0)) (3 * (k : Int)) = mput (dmS l k) (3 * (k : Int)) (gb (gp l (k : Int)) 0, ((gb (gp l (k : Int)) 0).length : Int)) := by
    rw [sync_yes (by unfold hasM; rw [al_put, if_pos rfl]; rfl), g1, mput_mput]
  have g2 : getM (mput (dmS l k) (3 * (k : Int)) (gb (gp l (k : Int)) 0, ((gb (gp l (k : Int)) 0).length : Int))) (3 * (k : Int)) = (gb (gp l (k : Int)) 0, ((gb (gp l (k : Int)) 0).length : Int)) := by unfold getM; rw [al_put, if_pos rfl]; rfl
  rw [a1, s1, (app_on (by omega) (by rw [g2]; dsimp only; omega) (.inl (by rw [al_put, if_pos rfl]; rfl))).2, g2, mput_mput, dmS_succ]
  rfl
theorem dmS_inv {l : List (List (List Int))} : ∀ {k : Nat}, k ≤ 20 → (∀ i < k, (gb (gp l (i : Int)) 0).length ≤ 250 ∧ (gb (gp l (i : Int)) 1).length ≤ 250) → DInv (dmS l k)
  | 0, _, _ => DInv.nil
  | k + 1, hk, h => by
    have ih := dmS_inv (l := l) (k := k) (by omega) (fun i hi => h i (by omega))
    have hh := h k (by omega)
    rw [← dmS_step (by omega) hh.1 hh.2]
    exact ((ih.app _ _).sync _).app _ _
theorem getM_perm {m m' : DM} (hp : m.Perm m') (hk : Keys m) (n : Int) : getM m n = getM m' n := by unfold getM; rw [al_perm hp hk]
theorem al_out {m : DM} : ∀ {L : List (Int × Int)}, (L.map (·.1)).Nodup → ∀ (n : Int), (∃ q, (n, q) ∈ L ∧ al (outL m L) n = if 0 < q then some ((getM m n).1.take q.toNat, q) else none) ∨ (n ∉ L.map (·.1) ∧ al (outL m L) n = none)
  | [], _, n => .inr ⟨by simp, rfl⟩
  | p :: L, hn, n => by
    rw [List.map_cons, List.nodup_cons] at hn
    have e : outL m (p :: L) = (outF m p).toList ++ outL m L := by unfold outL; rw [List.filterMap_cons]; cases outF m p <;> rfl
    rw [e]
    by_cases hp : p.1 = n
    · refine .inl ⟨p.2, by rw [← hp]; simp, ?_⟩
      have hno : al (outL m L) n = none := by
        rw [al_none]
        intro hm
        exact hn.1 (hp ▸ (out_sub m L).subset hm)
      unfold outF
      split
      · simp [al, hp]
      · simpa using hno
    · have e2 : al ((outF m p).toList ++ outL m L) n = al (outL m L) n := by
        unfold outF
        split
        · simp [al, hp]
        · rfl
      rw [e2]
      rcases al_out hn.2 n with ⟨q, h1, h2⟩ | ⟨h1, h2⟩
      · exact .inl ⟨q, List.mem_cons_of_mem _ h1, h2⟩
      · refine .inr ⟨?_, h2⟩
        rw [List.map_cons, List.mem_cons]
        rintro (h | h)
        · exact hp h.symm
        · exact h1 h
/-- Of each segment power leaves a beginning, no less than what was safe. -/
theorem pow_get {m : DM} (h : DInv m) (keep : List Int) (n : Int) : ∃ q : Int, (getM m n).2 ≤ q ∧ q ≤ ((getM m n).1.length : Int) ∧ getM (powL m keep) n = ((getM m n).1.take q.toNat, q) := by
  have hg := h.get n
  rcases al_out (m := m) (lft_keys (m := m) (keep := keep) (keysL_nodup h.keys) _ (Nat.le_refl _)) n with ⟨q, h1, h2⟩ | ⟨h1, h2⟩
  · have hq := lft_ok h (keep := keep) (Nat.le_refl _) _ h1
    have hs : (getM m n).2 ≤ q := by
      unfold lft at h1
      obtain ⟨i, hi, he⟩ := List.mem_map.1 h1
      cases he
      unfold keptI
      split
      · have := (rnd_range (c := gi keep (i : Int)) (n := ((getM m (gi (keysL m) (i : Int))).1.length : Int) - (getM m (gi (keysL m) (i : Int))).2 + 1) (by have := h.get (gi (keysL m) (i : Int)); omega)).1
        omega
      · omega
    refine ⟨q, hs, hq.2.1, ?_⟩
    unfold getM powL
    rw [h2]
    split
    · rfl
    · rename_i h0
      have : q = 0 := by have := hq.1; omega
      subst this
      simp
  · refine ⟨0, ?_, by omega, ?_⟩
    · have hno : hasM m n = false := by
        cases hh : hasM m n with
        | false => rfl
        | true =>
          exfalso
          apply h1
          have hm : n ∈ keysL m := (keysL_perm m).mem_iff.2 (by
            by_cases hc : n ∈ m.map (·.1)
            · exact hc
            · rw [← al_none] at hc; unfold hasM at hh; rw [hc] at hh; cases hh)
          obtain ⟨i, hi, he⟩ := List.getElem_of_mem hm
          unfold lft
          rw [List.map_map]
          refine List.mem_map.2 ⟨i, List.mem_range.2 hi, ?_⟩
          have := gi_some (xs := keysL m) (i := (i : Int)) (by omega) (by omega)
          rw [Int.toNat_natCast, List.getElem?_eq_getElem hi, he] at this
          exact (Option.some.inj this).symm
      have : al m n = none := by unfold hasM at hno; cases ha : al m n with | none => rfl | some x => rw [ha] at hno; cases hno
      unfold getM; rw [this]; simp
    · unfold getM powL
      rw [h2]; simp
theorem pow_inv {m : DM} (h : DInv m) (keep : List Int) {mo : DM} (hp : mo.Perm (powL m keep)) : DInv mo := by
  have hk := powL_keys h.keys keep
  refine ⟨(hp.map _).nodup_iff.2 hk, ?_, fun p hm => ?_⟩
  · rw [hp.length_eq]
    have h1 : (powL m keep).length ≤ (lft m keep (keysL m) (keysL m).length).length := List.length_filterMap_le _ _
    have h2 : (lft m keep (keysL m) (keysL m).length).length = m.length := by unfold lft; rw [List.length_map, List.length_range, keysL_length]
    have := h.few
    omega
  · have hm' := hp.mem_iff.1 hm
    unfold powL outL at hm'
    obtain ⟨q, hq, he⟩ := List.mem_filterMap.1 hm'
    have hq2 := lft_ok h (keep := keep) (Nat.le_refl _) _ hq
    have hg := h.get q.1
    unfold outF at he
    split at he
    · cases he
      dsimp only
      rw [List.length_take]
      omega
    · cases he
/-- What power leaves of the segments that DiskSafe makes, and what power that goes again leaves. -/
theorem safe_at {l : List (List (List Int))} {keep : List Int} {m2 m3 : DM} (hl : l.length ≤ 20) (hsm : ∀ i < l.length, (gb (gp l (i : Int)) 0).length ≤ 250 ∧ (gb (gp l (i : Int)) 1).length ≤ 250)
    (hp2 : m2.Perm (powL (dmS l l.length) keep)) (hp3 : m3.Perm (powL m2 keep)) {j : Nat} (hj : j < l.length) :
    ∃ q : Int, ((gb (gp l (j : Int)) 0).length : Int) ≤ q ∧ q ≤ ((gb (gp l (j : Int)) 0 ++ gb (gp l (j : Int)) 1).length : Int) ∧ (getM m2 (3 * (j : Int))).1 = (gb (gp l (j : Int)) 0 ++ gb (gp l (j : Int)) 1).take q.toNat ∧ (getM m2 (3 * (j : Int))).2 = q ∧ (getM m3 (3 * (j : Int))).1 = (gb (gp l (j : Int)) 0 ++ gb (gp l (j : Int)) 1).take q.toNat := by
  have hinv := dmS_inv (l := l) hl hsm
  have hinv2 := pow_inv hinv keep hp2
  have hinv3 := pow_inv hinv2 keep hp3
  have hg : getM (dmS l l.length) (3 * (j : Int)) = (gb (gp l (j : Int)) 0 ++ gb (gp l (j : Int)) 1, ((gb (gp l (j : Int)) 0).length : Int)) := by unfold getM; rw [dmS_at l _ j hj]; rfl
  obtain ⟨q, h1, h2, h3⟩ := pow_get hinv keep (3 * (j : Int))
  rw [hg] at h1 h2 h3
  dsimp only at h1 h2 h3
  rw [← getM_perm hp2 hinv2.keys] at h3
  obtain ⟨q', g1, g2, g3⟩ := pow_get hinv2 keep (3 * (j : Int))
  rw [← getM_perm hp3 hinv3.keys] at g3
  rw [h3] at g1 g2 g3
  dsimp only at g1 g2 g3
  rw [List.length_take] at g2
  obtain rfl : q' = q := by omega
  refine ⟨q', h1, h2, by rw [h3], by rw [h3], ?_⟩
  rw [g3, List.take_take, Nat.min_self]
end Go.Proofs.Ytkocinnoncacgaa.Dsk
