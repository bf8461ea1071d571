/- Fields: the laws over lists of fields. -/
import Derived.Test.YtiiklnghnifmjaaDoorCodD
import Derived.Test.YtiiklnghnifmjaaDoorSto
set_option linter.unusedVariables false
set_option linter.unusedSimpArgs false
namespace Go.Proofs.YtiiklnghnifmjaaDoor.Cod
open Go.RowKit Go.Proofs.YtiiklnghnifmjaaDoor.Sx
theorem few_len {xs : List Fld} (h : fewI xs = true) : xs.length ≤ 250 := by
  unfold fewI at h
  rw [Bool.and_eq_true] at h
  simpa using h.1
theorem few_short {xs : List Fld} (h : fewI xs = true) : short xs = true := by
  unfold fewI at h
  rw [Bool.and_eq_true] at h
  exact h.2
theorem short_app {xs ys : List Fld} (h : short xs = true) (k : short ys = true) : short (([] ++ xs) ++ ys) = true := by
  unfold short at *
  rw [List.nil_append, List.all_append, h, k]; rfl
theorem find_app_some {xs ys : List Fld} {tag : Int} {d : List Int} (h : findI xs tag = some d) : findI (([] ++ xs) ++ ys) tag = some d := by
  unfold findI at *
  rw [List.nil_append, List.find?_append]
  rw [Option.map_eq_some_iff] at h ⊢
  obtain ⟨f, h1, h2⟩ := h
  exact ⟨f, by rw [h1]; rfl, h2⟩
theorem find_app_none {xs ys : List Fld} {tag : Int} (h : findI xs tag = none) : findI (([] ++ xs) ++ ys) tag = findI ys tag := by
  unfold findI at *
  rw [List.nil_append, List.find?_append]
  rw [Option.map_eq_none_iff] at h
  rw [h]; rfl
theorem take_all {xs : List Fld} {k : Nat} {tag : Int} (hk : k = xs.length) (h : findI (xs.take k) tag = none) : findI xs tag = none := by
  subst hk; rwa [List.take_length] at h

/-! ### How long a list is -/
theorem enc_eq {xs : List Fld} (h : (if (encR xs).isSome = true then (0 : Int) else 11) = 0) : encR xs = some (encI xs) ∧ encOk xs = true := by
  unfold encR at h ⊢
  cases ho : encOk xs
  · rw [ho] at h; simp at h
  · exact ⟨rfl, rfl⟩
theorem enc_ne {xs : List Fld} (h : ¬ (if (encR xs).isSome = true then (0 : Int) else 11) = 0) : encR xs = none ∧ encOk xs = false := by
  unfold encR at h ⊢
  cases ho : encOk xs
  · exact ⟨rfl, rfl⟩
  · rw [ho] at h; simp at h
theorem size_step {xs : List Fld} {k : Nat} (hk : (k : Int) < xs.length) : ((encI (xs.take k)).length : Int) + 3 + ((gf xs (k : Int)).2.length : Int) = ((encI (xs.take (k + 1))).length : Int) := by
  rw [← encI_step hk]
  simp only [List.length_append, List.length_cons, List.length_nil]
  omega
theorem size_bound {xs : List Fld} (h : short xs = true) : ∀ k, k ≤ xs.length → (encI (xs.take k)).length ≤ 5003 * k := by
  intro k
  induction k with
  | zero => intro _; simp [encI]
  | succ k ih =>
    intro hk
    have h1 := ih (by omega)
    have h2 := short_gf h (k := k) (by omega)
    have h3 := size_step (xs := xs) (k := k) (by omega)
    omega
theorem split_at {xs : List Fld} {q : Nat} (hq : q < xs.length) (f : Fld) : xs = xs.take q ++ gf xs (q : Int) :: xs.drop (q + 1) ∧ xs.set q f = xs.take q ++ f :: xs.drop (q + 1) := by
  have hg : gf xs (q : Int) = xs[q] := by simp [gf, List.getD_eq_getElem?_getD, List.getElem?_eq_getElem hq]
  rw [hg]
  exact ⟨by simp, List.set_eq_take_append_cons_drop .. |>.trans (if_pos hq)⟩
theorem okF_new {xs : List Fld} {q : Nat} (hq : q < xs.length) (ds : List Int) (h : encOk xs = true) (h2 : encOk (xs.set q ((gf xs (q : Int)).1, ds)) = false) : 2000 < (ds.length : Int) := by
  obtain ⟨e1, e2⟩ := split_at hq ((gf xs (q : Int)).1, ds)
  unfold encOk at h h2
  rw [List.length_set] at h2
  rw [Bool.and_eq_true] at h
  rw [h.1, Bool.true_and, e2] at h2
  have h3 := h.2
  rw [e1] at h3
  simp only [List.all_append, List.all_cons, Bool.and_eq_true] at h3
  simp only [List.all_append, List.all_cons, h3.1, h3.2.2, Bool.true_and, Bool.and_true] at h2
  have h4 := h3.2.1
  simp only [okF, Bool.and_eq_true, decide_eq_true_eq] at h4
  simp only [okF, Bool.and_eq_false_iff, decide_eq_false_iff_not] at h2
  omega
theorem len_new {xs : List Fld} {q : Nat} (hq : q < xs.length) (ds : List Int) : ((encI (xs.set q ((gf xs (q : Int)).1, ds))).length : Int) = ((encI xs).length : Int) - ((gf xs (q : Int)).2.length : Int) + (ds.length : Int) := by
  obtain ⟨e1, e2⟩ := split_at hq ((gf xs (q : Int)).1, ds)
  rw [e2]
  conv => rhs; rw [e1]
  have e3 : ∀ i : Int, gf (xs.take q ++ gf xs (q : Int) :: xs.drop (q + 1)) i = gf xs i := fun i => by rw [← e1]
  rw [e3]
  simp only [encI, List.flatMap_append, List.flatMap_cons, encF, List.length_append, List.length_cons, List.length_nil]
  omega
def BytesF (xs : List Fld) : Prop := ∀ f ∈ xs, Bytes f.2
theorem bytes_encF {f : Fld} (h : okF f = true) (hb : Bytes f.2) : Bytes (encF f) := by
  simp only [okF, Bool.and_eq_true, decide_eq_true_eq] at h
  intro x hx
  unfold encF at hx
  rcases List.mem_append.1 hx with hx | hx
  · simp only [List.mem_cons, List.not_mem_nil, or_false] at hx
    rcases hx with rfl | rfl | rfl <;> omega
  · exact hb x hx
theorem bytes_encI {xs : List Fld} (h : xs.all okF = true) (hb : BytesF xs) : Bytes (encI xs) := by
  intro x hx
  unfold encI at hx
  rw [List.mem_flatMap] at hx
  obtain ⟨f, hf, hx⟩ := hx
  rw [List.all_eq_true] at h
  exact bytes_encF (h f hf) (hb f hf) x hx
theorem same_new {xs : List Fld} {q : Nat} (hq : q < xs.length) (ds : List Int) (h : encOk xs = true) (h2 : encOk (xs.set q ((gf xs (q : Int)).1, ds)) = true) (hb : BytesF xs) (hd : Bytes ds) :
    (decide (strOfNums (encI xs) = strOfNums (encI (xs.set q ((gf xs (q : Int)).1, ds)))) == decide (strOfNums ds = strOfNums (gf xs (q : Int)).2)) = true := by
  have hg : gf xs (q : Int) ∈ xs := List.mem_of_getElem? (gf_some (xs := xs) (i := (q : Int)) (by omega) (by omega))
  have hb2 : BytesF (xs.set q ((gf xs (q : Int)).1, ds)) := by
    intro f hf
    rcases List.mem_or_eq_of_mem_set hf with h | rfl
    · exact hb f h
    · exact hd
  unfold encOk at h h2
  rw [Bool.and_eq_true] at h h2
  rw [beq_iff_eq, decide_eq_decide]
  obtain ⟨e1, e2⟩ := split_at hq ((gf xs (q : Int)).1, ds)
  constructor
  · intro hs
    have h3 := strOfNums_inj _ _ (bytes_encI h.2 hb) (bytes_encI h2.2 hb2) hs
    rw [e2] at h3
    have h4 : encI xs = encI (xs.take q ++ gf xs (q : Int) :: xs.drop (q + 1)) := congrArg encI e1
    rw [h4] at h3
    simp only [encI, List.flatMap_append, List.flatMap_cons] at h3
    have h5 := List.append_cancel_right (List.append_cancel_left h3)
    unfold encF at h5
    have h6 := congrArg (List.drop 3) h5
    simp at h6
    rw [h6]
  · intro hs
    have h3 := strOfNums_inj _ _ hd (hb _ hg) hs
    have : xs.set q ((gf xs (q : Int)).1, ds) = xs := by
      rw [e2, h3]
      exact e1.symm
    rw [this]
theorem rem_at {p : Int} {n : Nat} (hp : 0 ≤ p) (hn : 0 < n) : ∃ q : Nat, q < n ∧ p.tmod (n : Int) = (q : Int) := by
  obtain ⟨m, rfl⟩ := Int.eq_ofNat_of_zero_le hp
  exact ⟨m % n, Nat.mod_lt _ hn, by rw [Int.tmod_eq_emod_of_nonneg hp]; simp⟩
theorem fld_put {w : World} {ok ok' : Nat → Prop} {f : Fld} {cs : List Value} {A : Option Addr} {ds : List Int} {c : Nat} (h : FE.R w ok f cs) (hr : Rd (.int .u8) w ok' A ds c) : FE.R w ok' (f.1, ds) (putc cs 1 [.slice A ds.length c]) := by
  obtain ⟨A', c', rfl, _⟩ := fld_cells h
  exact fld_mk (f := (f.1, ds)) hr

/-! ### Same -/
def sameP (xs ys : List Fld) (i : Nat) : Bool := decide ((gf xs (i : Int)).1 = (gf ys (i : Int)).1) && decide (strOfNums (gf xs (i : Int)).2 = strOfNums (gf ys (i : Int)).2)
def sameI (xs ys : List Fld) : Bool := decide (xs.length = ys.length) && (List.range xs.length).all (sameP xs ys)
theorem same_len {xs ys : List Fld} (h : ¬ (xs.length : Int) = ys.length) : sameI xs ys = false := by unfold sameI; rw [decide_eq_false (by omega)]; rfl
theorem same_bad {xs ys : List Fld} {k : Nat} (hk : (k : Int) < xs.length) (h : sameP xs ys k = false) : sameI xs ys = false := by
  unfold sameI
  rw [Bool.and_eq_false_iff]
  right
  rw [List.all_eq_false]
  exact ⟨k, List.mem_range.2 (by omega), by rw [h]; simp⟩
theorem same_step {xs ys : List Fld} {k : Nat} (h : (List.range k).all (sameP xs ys) = true) (h2 : sameP xs ys k = true) : (List.range (k + 1)).all (sameP xs ys) = true := by
  rw [List.range_succ, List.all_append, h]; simp [h2]
theorem same_yes {xs ys : List Fld} (h : (xs.length : Int) = ys.length) (h2 : (List.range xs.length).all (sameP xs ys) = true) : sameI xs ys = true := by
  unfold sameI; rw [decide_eq_true (by omega), h2]; rfl
theorem sameP_tag {xs ys : List Fld} {k : Nat} (h : ¬ (gf xs (k : Int)).1 = (gf ys (k : Int)).1) : sameP xs ys k = false := by unfold sameP; rw [decide_eq_false h]; rfl
theorem sameP_data {xs ys : List Fld} {k : Nat} (h : ¬ strOfNums (gf xs (k : Int)).2 = strOfNums (gf ys (k : Int)).2) : sameP xs ys k = false := by unfold sameP; rw [decide_eq_false h]; simp
theorem sameP_yes {xs ys : List Fld} {k : Nat} (h : (gf xs (k : Int)).1 = (gf ys (k : Int)).1) (h2 : strOfNums (gf xs (k : Int)).2 = strOfNums (gf ys (k : Int)).2) : sameP xs ys k = true := by unfold sameP; rw [decide_eq_true h, decide_eq_true h2]; rfl
theorem quo256i {n : Nat} (h : n < 9223372036854775808) : IntKind.i64.wrap ((n : Int).tdiv 256) = (n : Int) / 256 := by
  rw [Int.tdiv_eq_ediv_of_nonneg (by omega), IntKind.wrap_i64]
  omega
theorem rem256i (n : Nat) : (n : Int).tmod 256 = (n : Int) % 256 := Int.tmod_eq_emod_of_nonneg (by omega)
end Go.Proofs.YtiiklnghnifmjaaDoor.Cod
