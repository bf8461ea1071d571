/- A byte that is another one is always found, plain. -/
import Derived.Test.YtiiklnghnifmjaaDoorSdcDZs
import Derived.Test.YtiiklnghnifmjaaDoorCrcBZs
set_option linter.unusedVariables false
set_option linter.unusedSimpArgs false
namespace Go.Proofs.YtiiklnghnifmjaaDoor.Act
open Go.RowKit Go.Proofs.YtiiklnghnifmjaaDoor.Sx Go.Proofs.YtiiklnghnifmjaaDoor.Cod Go.Proofs.YtiiklnghnifmjaaDoor.Num
theorem crc_B (xs : List Int) : Crc.moreI 0 xs = ((Crc.moreB 0#32 (xs.map Crc.bv)).toNat : Int) := Crc.more_B 0#32 xs
theorem crc_range (xs : List Int) : 0 ≤ Crc.moreI 0 xs ∧ Crc.moreI 0 xs < 4294967296 := by
  rw [crc_B]
  have := (Crc.moreB 0#32 (xs.map Crc.bv)).isLt
  omega
theorem crc_byte {p s : List Int} {u v : Int} (hu : 0 ≤ u ∧ u < 256) (hv : 0 ≤ v ∧ v < 256) (h : Crc.moreI 0 (p ++ u :: s) = Crc.moreI 0 (p ++ v :: s)) : u = v := by
  rw [crc_B, crc_B] at h
  have h1 : Crc.moreB 0#32 ((p ++ u :: s).map Crc.bv) = Crc.moreB 0#32 ((p ++ v :: s).map Crc.bv) := BitVec.eq_of_toNat_eq (by omega)
  unfold Crc.moreB at h1
  have h2 := Crc.cpl_not _ _ h1
  rw [List.map_append, List.map_append, List.foldl_append, List.foldl_append, List.map_cons, List.map_cons, List.foldl_cons, List.foldl_cons] at h2
  have h3 := Crc.fold_inj _ _ _ h2
  have su : Crc.Small [Crc.bv u] := Crc.Bytes.small (xs := [u]) (fun x hx => by rw [List.mem_singleton.1 hx]; exact hu)
  have sv : Crc.Small [Crc.bv v] := Crc.Bytes.small (xs := [v]) (fun x hx => by rw [List.mem_singleton.1 hx]; exact hv)
  have h4 := Crc.fold_burst [Crc.bv u] [Crc.bv v] _ su sv rfl (by simp) h3
  have h5 := Crc.map_bv_inj [u] [v] (fun x hx => by rw [List.mem_singleton.1 hx]; exact hu) (fun x hx => by rw [List.mem_singleton.1 hx]; exact hv) h4
  exact (List.cons.inj h5).1
theorem le4_inj {s t : Int} (hs : 0 ≤ s ∧ s < 4294967296) (ht : 0 ≤ t ∧ t < 4294967296) (h : le4 s = le4 t) : s = t := by
  unfold le4 at h
  simp only [List.cons.injEq, and_true] at h
  omega
theorem flip_no {r : SReqD} (hr : rightQ r = true) (hb : SReqB r) {k : Nat} {y : Int} (hk : k < (encQ r).length) (hy : 0 ≤ y ∧ y < 256) (hne : ¬ y = gi (encQ r) (k : Int)) : NoQ ((encQ r).set k y) := by
  intro r' hr' hb' e
  have hx := encQ_byte hb (r := r)
  have hg : gi (encQ r) (k : Int) = (encQ r)[k] := by unfold gi; rw [Int.toNat_natCast]; simp [List.getD_eq_getElem?_getD, hk]
  rw [hg] at hne
  have hlen := congrArg List.length e
  rw [List.length_set, ← encQ_yes hr, ← encQ_yes hr'] at hlen
  simp only [List.length_append, le4, List.length_cons, List.length_nil] at hlen
  revert hne hk e
  rw [← encQ_yes hr, ← encQ_yes hr']
  intro hk hne e _
  by_cases h : k < (encI (reqF r)).length
  · rw [List.set_append_left k y h] at e
    obtain ⟨e1, e2⟩ := List.append_inj e (by rw [List.length_set]; omega)
    have e3 := le4_inj (crc_range _) (crc_range _) e2
    rw [e1, List.set_eq_take_append_cons_drop, if_pos h] at e3
    have e4 : encI (reqF r) = (encI (reqF r)).take k ++ (encI (reqF r))[k] :: (encI (reqF r)).drop (k + 1) := by rw [← List.drop_eq_getElem_cons h, List.take_append_drop]
    conv at e3 => rhs; rw [e4]
    have hbt := reqI_byte hb hr _ (List.getElem_mem h)
    have e5 := crc_byte hy ⟨hbt.1, hbt.2⟩ e3
    rw [List.getElem_append_left h] at hne
    exact hne e5
  · rw [List.set_append_right k y (by omega)] at e
    obtain ⟨e1, e2⟩ := List.append_inj e (by omega)
    rw [e1] at e2
    have hj : k - (encI (reqF r)).length < (le4 (Crc.moreI 0 (encI (reqF r)))).length := by
      rw [List.length_append] at hk; omega
    have e6 : (le4 (Crc.moreI 0 (encI (reqF r))))[k - (encI (reqF r)).length]? = some y := by
      rw [e2, List.getElem?_set, if_pos rfl, if_pos hj]
    rw [List.getElem_append_right (by omega)] at hne
    rw [List.getElem?_eq_getElem hj] at e6
    exact hne (Option.some.inj e6).symm
theorem xor_ne {a b : Int} (ha : 0 ≤ a ∧ a < 256) (hb : 1 ≤ b ∧ b < 256) : (0 ≤ bits .xor .u8 a b ∧ bits .xor .u8 a b < 256) ∧ ¬ bits .xor .u8 a b = a := by
  obtain ⟨h1, h2, h3⟩ := Crc.bv_u8_xor a b ha.1 ha.2 (by omega) hb.2
  refine ⟨⟨h2, h3⟩, fun h => ?_⟩
  rw [h] at h1
  have h4 : Crc.bv b = 0#32 := by
    have : Crc.bv a ^^^ Crc.bv a = Crc.bv a ^^^ (Crc.bv a ^^^ Crc.bv b) := by rw [← h1]
    rw [BitVec.xor_self, ← BitVec.xor_assoc, BitVec.xor_self, BitVec.zero_xor] at this
    exact this.symm
  have h5 := congrArg BitVec.toNat h4
  rw [Crc.bv_toNat ⟨by omega, hb.2⟩] at h5
  simp at h5
  omega
def abI (c : Int) : Int := if c < 0 then 0 - (c + 1) else c
def pkI (c n : Int) : Int := (abI c).tmod n
theorem pk_neg {c : Int} (h : c < 0) : 0 - (c + 1) = abI c := by unfold abI; rw [if_pos h]
theorem pk_pos {c : Int} (h : ¬ c < 0) : c = abI c := by unfold abI; rw [if_neg h]
theorem pk_range {c n : Int} (hn : 0 < n) : 0 ≤ pkI c n ∧ pkI c n < n := by
  have h : 0 ≤ abI c := by unfold abI; split <;> omega
  unfold pkI
  rw [Int.tmod_eq_emod_of_nonneg h]
  exact ⟨Int.emod_nonneg _ (by omega), Int.emod_lt_of_pos _ hn⟩
def flipI (x : List Int) (at_ : Int) : List Int := x.set (pkI at_ (x.length : Int)).toNat (bits .xor .u8 (gi x (pkI at_ (x.length : Int))) (1 + pkI at_ 255))
theorem encQ_pos {r : SReqD} (hr : rightQ r = true) : 0 < (encQ r).length := by
  rw [← encQ_yes hr, List.length_append]; simp only [le4, List.length_cons]; omega
theorem flip_bad {r : SReqD} (hr : rightQ r = true) (hb : SReqB r) (at_ : Int) : NoQ (flipI (encQ r) at_) ∧ Byte (flipI (encQ r) at_) := by
  have hp := encQ_pos hr
  have hk := pk_range (c := at_) (n := ((encQ r).length : Int)) (by omega)
  have hv := pk_range (c := at_) (n := 255) (by decide)
  have hx := (encQ_byte hb : Byte (encQ r)).gi (pkI at_ ((encQ r).length : Int))
  have h := xor_ne hx (b := 1 + pkI at_ 255) (by omega)
  have e : (((pkI at_ ((encQ r).length : Int)).toNat : Nat) : Int) = pkI at_ ((encQ r).length : Int) := by omega
  refine ⟨flip_no hr hb (by omega) h.1 (by rw [e]; exact h.2), fun n hn => ?_⟩
  rcases List.mem_or_eq_of_mem_set hn with hn | rfl
  · exact encQ_byte hb n hn
  · exact h.1
theorem sreq_same {x y : SReqD} : x = y ↔ x.client = y.client ∧ x.num = y.num ∧ x.ops = y.ops := by cases x; cases y; simp
end Go.Proofs.YtiiklnghnifmjaaDoor.Act
