/- The document's answer for the trie. -/
import Derived.Test.YtlcnoibjhmflnaaTriL
import Derived.Test.YtlcnoibjhmflnaaTrF
import Derived.Test.YtlcnoibjhmflnaaSeq
set_option linter.unusedVariables false
set_option linter.unusedSimpArgs false
namespace Go.Proofs.Ytlcnoibjhmflnaa.Act
open Go.RowKit Go.Proofs.Ytlcnoibjhmflnaa.Sx Go.Sort Go.Proofs.Ytlcnoibjhmflnaa.Cod
theorem ty48 : TyI Try.prog 48 (.agg #[.string (strOfNums []), .string (strOfNums [])]) 2 32 true := ⟨by kernel_rfl, _, Try.underlying48, rfl⟩
theorem tent_ge (l : List EntT) (i : Nat) : gtent l (i : Int) = ge9 l i := rfl
theorem tent_take {xs : List EntT} {i : Nat} (h : i < xs.length) : xs.take (i + 1) = xs.take i ++ [gtent xs (i : Int)] := take_succ9 h
set_option maxRecDepth 100000 in
set_option maxHeartbeats 1000000 in
theorem told_calls (w0 : World) {xs : List Ent} {ok : Nat → Prop} {A : Option Addr} {c : Nat} (hr : Rd TentE w0 ok A xs c) (hlx : xs.length ≤ 1000000) : Calls Try.prog 18 #[.slice A xs.length c] w0 fun e w' => ∃ v, e = .returned v ∧ Mods (fun _ => False) w0 w' ∧ RowOut TentE 48 w0 w' v xs := by
  refine calls_of_wp Try.func18 rfl ?_
  have hF := Fr.enter #[.slice A xs.length c] 26 (slotsOf [.slice A xs.length c] 0) (Nat.le_of_ble_eq_true rfl) (fun i v h => by have h2 := (get_slotsOf _ 0 i v h).2; simpa only [List.getElem?_toArray, Nat.sub_zero] using h2)
  have hH := Hp.nil (fun _ => False) w0
  rw [Try.ntmps18]
  revert hF; generalize (⟨(#[.slice A xs.length c] : Array Value) ++ Array.replicate (26 - (#[.slice A xs.length c] : Array Value).size) undef, []⟩ : Act) = a; intro hF
  have hH := hH.arg 901 hr.all (fun _ h => ⟨h, fun h => h⟩)
  have hle901 := hr.le; unfold maxLen at hle901
  refine wp_seq_k fun khK1 hK1 => ?_
  refine wp_region_lit ?_
  refine l_at hF rfl rfl rfl (x_assign rfl) ?_; clear hF; intro a hF
  refine wpList_nil ?_
  refine hK1 _ _ ?_
  refine wp_seq_k fun khK2 hK2 => ?_
  refine wp_region_lit ?_
  refine l_at hF rfl rfl rfl (x_assign rfl) ?_; clear hF; intro a hF
  refine wpList_nil ?_
  refine hK2 _ _ ?_
  refine wp_seq_k fun khK3 hK3 => ?_
  refine wp_seq_k fun khK4 hK4 => ?_
  refine wp_region_lit ?_
  refine l_at hF rfl rfl rfl (x_assign rfl) ?_; clear hF; intro a hF
  have hH := hH.row0 55 TentE 48
  refine wpList_nil ?_
  refine hK4 _ _ ?_
  refine wp_block ?_
  refine wp_loop_ghost (fun n_ a w => ∃ i : Nat, ∃ v : Value, n_ = xs.length - i ∧ (i ≤ xs.length) ∧ Fr 26 a [(0, .slice A xs.length c), (3, v), (4, .int .i64 (i : Int))] ∧ Hp (fun _ => False) w0 w [(901, .rd_ TentE A xs c (fun k => k < w0.heap.size)), (55, .row TentE 48 v (xs.take i) (fun _ => False))]) (xs.length) ?_ ?_
  · exact ⟨0, _, rfl, Nat.zero_le _, (((hF.bare.add hF 4 rfl).add hF 3 rfl).add hF 0 rfl), hH.sub _ (sub_cons (sub_cons (sub_nil _) 55 rfl) 901 rfl)⟩
  · rintro _ a w ⟨i, v, rfl, hq0_0, hF, hH⟩
    refine wp_seq_k fun khK5 hK5 => ?_
    refine wp_seq_k fun khK6 hK6 => ?_
    refine wp_region_lit ?_
    refine l_at hF rfl rfl rfl (x_move (hF.tmp 4 rfl)) ?_; clear hF; intro a hF
    refine l_at hF rfl rfl rfl (x_move (hF.tmp 0 rfl)) ?_; clear hF; intro a hF
    refine l_at hF rfl rfl rfl (x_len_slice Try.underlying25 (hF.tmp 6 rfl)) ?_; clear hF; intro a hF
    refine l_at hF rfl rfl rfl (x_lss (hF.tmp 5 rfl) (hF.tmp 7 rfl)) ?_; clear hF; intro a hF
    refine wpList_nil ?_
    refine hK6 _ _ ?_
    refine wp_cond_split (hF.tmp 8 rfl) (fun hc8 => ?_) (fun hc8 => ?_)
    · have hk8_1 := hc8; try simp only [Bool.or_eq_true, Bool.and_eq_true, Bool.or_eq_false_iff, Bool.and_eq_false_iff, Bool.not_eq_true', Bool.not_eq_false', decide_eq_true_eq, decide_eq_false_iff_not, Bool.not_true, Bool.not_false] at hc8
      obtain ⟨hf1_0, hf1_1, hfw1⟩ := rd_tent ((hH.rd 901 rfl)) (gtent_some (xs := xs) (i := (i : Int)) (by omega) (by omega))
      have hH := hH.subcels 901 rfl 1499 hfw1 (Rd.inok ((hH.rd 901 rfl)) (by omega) _)
      have hH := hH.subcel 901 rfl 1500 hf1_0 (Rd.inok ((hH.rd 901 rfl)) (by omega) _)
      have hH := hH.subcel 901 rfl 1501 hf1_1 (Rd.inok ((hH.rd 901 rfl)) (by omega) _)
      refine wp_skip ?_
      refine hK5 _ _ ?_
      refine wp_seq_k fun khK7 hK7 => ?_
      refine wp_block ?_
      refine r_start [(901, .rd_ TentE A xs c (fun k => k < w0.heap.size)), (1499, .cels (adr A (Int.toNat (i : Int) * 2)) #[.string (strOfNums (gtent xs (i : Int)).1), .string (strOfNums (gtent xs (i : Int)).2)]), (1500, .cel (adr A (Int.toNat (i : Int) * 2)) (.string (strOfNums (gtent xs (i : Int)).1))), (1501, .cel (adr A (Int.toNat (i : Int) * 2 + 1)) (.string (strOfNums (gtent xs (i : Int)).2)))] (by kernel_rfl) hH fun hH => ?_
      have hS : SL [(901, .rd_ TentE A xs c (fun k => k < w0.heap.size)), (1499, .cels (adr A (Int.toNat (i : Int) * 2)) #[.string (strOfNums (gtent xs (i : Int)).1), .string (strOfNums (gtent xs (i : Int)).2)]), (1500, .cel (adr A (Int.toNat (i : Int) * 2)) (.string (strOfNums (gtent xs (i : Int)).1))), (1501, .cel (adr A (Int.toNat (i : Int) * 2 + 1)) (.string (strOfNums (gtent xs (i : Int)).2)))] _ := SL.of hH (sub_cons (sub_cons (sub_cons (sub_cons (sub_nil _) 1501 rfl) 1500 rfl) 1499 rfl) 901 rfl)
      refine r_take 0 hF rfl rfl rfl (by kernel_rfl) (by kernel_rfl) (by kernel_rfl) (fun _ _ _ h => h) rfl hS (fun w hS => x_move (hF.tmp 3 rfl)) rfl ?_; clear hF; intro a hF
      refine r_take 1 hF rfl rfl rfl (by kernel_rfl) (by kernel_rfl) (by kernel_rfl) (fun _ _ _ h => h) rfl hS (fun w hS => x_move (hF.tmp 0 rfl)) rfl ?_; clear hF; intro a hF
      refine r_take 2 hF rfl rfl rfl (by kernel_rfl) (by kernel_rfl) (by kernel_rfl) (fun _ _ _ h => h) rfl hS (fun w hS => x_move (hF.tmp 4 rfl)) rfl ?_; clear hF; intro a hF
      refine r_take 3 hF rfl rfl rfl (by kernel_rfl) (by kernel_rfl) (by kernel_rfl) (fun _ _ _ h => h) rfl hS (fun w hS => x_iaddr_A Try.underlying25 ty30 ((hH.rd 901 rfl)) (hF.tmp 12 rfl) (hF.tmp 13 rfl) (by omega) (by omega) _) rfl ?_; clear hF; intro a hF
      refine r_take 4 hF rfl rfl rfl (by kernel_rfl) (by kernel_rfl) (by kernel_rfl) (fun _ _ _ h => h) rfl hS (fun w hS => x_faddrA ((SL.rd hS 901 rfl)) (by omega) _ Try.underlying30 rfl ty9 (by decide) (hF.tmp 14 rfl) rfl) rfl ?_; clear hF; intro a hF
      refine r_take 5 hF rfl rfl rfl (by kernel_rfl) (by kernel_rfl) (by kernel_rfl) (fun _ _ _ h => h) rfl hS (fun w hS => x_load1 ty9 (hF.tmp 15 rfl) (hS 1500 _ rfl)) rfl ?_; clear hF; intro a hF
      refine r_take 6 hF rfl rfl rfl (by kernel_rfl) (by kernel_rfl) (by kernel_rfl) (fun _ _ _ h => h) rfl hS (fun w hS => x_move (hF.tmp 0 rfl)) rfl ?_; clear hF; intro a hF
      refine r_take 7 hF rfl rfl rfl (by kernel_rfl) (by kernel_rfl) (by kernel_rfl) (fun _ _ _ h => h) rfl hS (fun w hS => x_move (hF.tmp 4 rfl)) rfl ?_; clear hF; intro a hF
      refine r_take 8 hF rfl rfl rfl (by kernel_rfl) (by kernel_rfl) (by kernel_rfl) (fun _ _ _ h => h) rfl hS (fun w hS => x_iaddr_A Try.underlying25 ty30 ((hH.rd 901 rfl)) (hF.tmp 17 rfl) (hF.tmp 18 rfl) (by omega) (by omega) _) rfl ?_; clear hF; intro a hF
      refine r_take 9 hF rfl rfl rfl (by kernel_rfl) (by kernel_rfl) (by kernel_rfl) (fun _ _ _ h => h) rfl hS (fun w hS => x_faddrA ((SL.rd hS 901 rfl)) (by omega) _ Try.underlying30 rfl ty9 (by decide) (hF.tmp 19 rfl) rfl) rfl ?_; clear hF; intro a hF
      refine r_take 10 hF rfl rfl rfl (by kernel_rfl) (by kernel_rfl) (by kernel_rfl) (fun _ _ _ h => h) rfl hS (fun w hS => x_load1 ty9 (hF.tmp 20 rfl) (hS 1501 _ rfl)) rfl ?_; clear hF; intro a hF
      refine r_take 11 hF rfl rfl rfl (by kernel_rfl) (by kernel_rfl) (by kernel_rfl) (fun _ _ _ h => h) rfl hS (fun w hS => x_buildS (cells := #[.string (strOfNums (gtent xs (i : Int)).1), .string (strOfNums (gtent xs (i : Int)).2)]) (places := #[(0, 1), (1, 1)]) Try.underlying48 ty48 (by kernel_rfl) (by simp only [List.map_toArray, List.map_cons, List.map_nil, hF.tmp 16 rfl, hF.tmp 21 rfl] <;> rfl) rfl) rfl ?_; clear hF; intro a hF
      refine r_do 12 rfl (by kernel_rfl) rfl rfl ?_
      refine w_lit1 23 TentE ((gtent xs (i : Int)) : EntT) #[.string (strOfNums ((gtent xs (i : Int)) : EntT).1), .string (strOfNums ((gtent xs (i : Int)) : EntT).2)] (fun _ => False) hF hH rfl Try.underlying38 ty48 (by simp only [List.map_toArray, List.map_cons, List.map_nil, hF.tmp 22 rfl] <;> rfl) (by decide) (by kernel_rfl) (tent_mk ((gtent xs (i : Int)) : EntT)) (fun kb hk => hk.elim) ?_
      clear hF hH; intro a w b23 hF hb23_ hH
      clear hS; have hS : SL _ _ := SL.of hH (sub_cons (sub_cons (sub_cons (sub_cons (sub_nil _) 1501 rfl) 1500 rfl) 1499 rfl) 901 rfl); refine ⟨hS, ?_⟩
      refine r_do 13 rfl (by kernel_rfl) rfl rfl ?_
      refine w_append 55 23 (xs := (xs.take i)) (ys := ([((gtent xs (i : Int)) : EntT)])) hF hH rfl Try.underlying38 ty48 rfl rfl rfl rfl ((hH.rd 23 rfl)) (by intro k_ hk_; exact .inr hk_) (hF.tmp 11 rfl) (hF.tmp 23 rfl) (by simp only [List.length_append, List.length_nil, List.length_cons, List.length_take] at *; omega) (by simp only [List.length_append, List.length_nil, List.length_cons, List.length_take, maxLen] at *; omega) (fun _ => False) (fun w' v' h => tent_any h) (fun k_ hk_ => hk_.elim) ?_
      clear hF hH; intro a w v24 hF hH
      clear hS; have hS : SL _ _ := SL.of hH (sub_cons (sub_cons (sub_cons (sub_cons (sub_nil _) 1501 rfl) 1500 rfl) 1499 rfl) 901 rfl); refine ⟨hS, ?_⟩
      obtain ⟨A24, c24, rfl⟩ := (hH.row 55 rfl).form
      refine r_take 14 hF rfl rfl rfl (by kernel_rfl) (by kernel_rfl) (by kernel_rfl) (fun _ _ _ h => h) rfl hS (fun w hS => x_assign (hF.tmp 24 rfl)) rfl ?_; clear hF; intro a hF
      refine r_end (by kernel_rfl) ?_; clear hS
      refine hK7 _ _ ?_
      refine wp_region_lit ?_
      refine l_at hF rfl rfl rfl (x_move (hF.tmp 4 rfl)) ?_; clear hF; intro a hF
      refine l_at hF rfl rfl rfl (x_add (hF.tmp 9 rfl) rfl (show IntKind.i64.wrap _ = ((i + 1 : Nat) : Int) from by rw [w64 (by omega) (by omega)] <;> omega)) ?_; clear hF; intro a hF
      refine l_at hF rfl rfl rfl (x_assign (hF.tmp 10 rfl)) ?_; clear hF; intro a hF
      refine wpList_nil ?_
      have hH := hH.relab 55 (Y := .row TentE 48 (.slice A24 ((xs.take i) ++ [((gtent xs (i : Int)) : EntT)]).length c24) (xs.take (i + 1)) (fun _ => False)) rfl (by rw [tent_take (by omega)])
      exact ⟨_, by omega, ⟨i + 1, _, rfl, by omega, (((hF.bare.add hF 4 rfl).add hF 3 rfl).add hF 0 rfl), hH.sub _ (sub_cons (sub_cons (sub_nil _) 55 rfl) 901 rfl)⟩⟩
    · have hk8_2 := hc8; try simp only [Bool.or_eq_true, Bool.and_eq_true, Bool.or_eq_false_iff, Bool.and_eq_false_iff, Bool.not_eq_true', Bool.not_eq_false', decide_eq_true_eq, decide_eq_false_iff_not, Bool.not_true, Bool.not_false] at hc8
      refine wp_exit ?_
      refine hK3 _ _ ?_
      refine wp_seq_k fun khK8 hK8 => ?_
      refine wp_region_lit ?_
      refine l_at hF rfl rfl rfl (x_move (hF.tmp 3 rfl)) ?_; clear hF; intro a hF
      refine l_at hF rfl rfl rfl (x_assign (hF.tmp 25 rfl)) ?_; clear hF; intro a hF
      refine wpList_nil ?_
      refine hK8 _ _ ?_
      refine wp_ret ?_
      try simp only [Exit.then, Exit.inBlock]
      have hres : xs.take i = xs := List.take_of_length_le (by omega)
      exact fin_ret hF (res1 hF rfl rfl) ⟨_, rfl, hH.mods, by rw [hres] at hH; exact Hp.out hH 55 rfl⟩

set_option maxRecDepth 100000 in
theorem rent_eqD {w : World} {x y : EntT} (hx0 : Byte x.1) (hy0 : Byte y.1) (hx1 : Byte x.2) (hy1 : Byte y.2) : (Op.eqFields 9999 #[.string (strOfNums x.1), .string (strOfNums x.2)] #[.string (strOfNums y.1), .string (strOfNums y.2)] (Try.prog.fieldsOf 48).toList).run Try.prog w = .ok (decide (x = y)) w := by
  have key : (x = y) = (x.1 = y.1 ∧ x.2 = y.2) := propext (by obtain ⟨x0, x1⟩ := x; obtain ⟨y0, y1⟩ := y; simp)
  have key2 : decide (x = y) = decide (x.1 = y.1 ∧ x.2 = y.2) := by simp only [key]
  rw [key2]
  simp only [Program.fieldsOf, Try.underlying48]
  simp [Op.eqFields, part, go_sem, tl_eq]
  have hs0 : (strOfNums x.1 = strOfNums y.1) = (x.1 = y.1) := propext ⟨sn_inj _ _ hx0 hy0, fun h => by rw [h]⟩
  have hs1 : (strOfNums x.2 = strOfNums y.2) = (x.2 = y.2) := propext ⟨sn_inj _ _ hx1 hy1, fun h => by rw [h]⟩
  simp only [hs0, hs1]
  by_cases h0 : x.1 = y.1 <;> by_cases h1 : x.2 = y.2 <;> simp [h0, h1]
theorem rent_eqs {dst : Option Tmp} {ty t' : TypeId} {pos : String} {af : Array Edge} {gg : Option (Nat × Bool)} {a : Act} {w : World} {u v : Operand} {x y : EntT} (hx0 : Byte x.1) (hy0 : Byte y.1) (hx1 : Byte x.2) (hy1 : Byte y.2) (hu : a.eval u = .agg #[.string (strOfNums x.1), .string (strOfNums x.2)]) (hv : a.eval v = .agg #[.string (strOfNums y.1), .string (strOfNums y.2)]) : At Try.prog ⟨dst, .binOp .eql 48 u v t', ty, pos, af, gg⟩ a w (.bool (decide (x = y))) :=
  x_eqS (by kernel_rfl) (by kernel_rfl) (by kernel_rfl) hu hv (rent_eqD hx0 hy0 hx1 hy1)
theorem rent_nes {dst : Option Tmp} {ty t' : TypeId} {pos : String} {af : Array Edge} {gg : Option (Nat × Bool)} {a : Act} {w : World} {u v : Operand} {x y : EntT} (hx0 : Byte x.1) (hy0 : Byte y.1) (hx1 : Byte x.2) (hy1 : Byte y.2) (hu : a.eval u = .agg #[.string (strOfNums x.1), .string (strOfNums x.2)]) (hv : a.eval v = .agg #[.string (strOfNums y.1), .string (strOfNums y.2)]) : At Try.prog ⟨dst, .binOp .neq 48 u v t', ty, pos, af, gg⟩ a w (.bool (!decide (x = y))) :=
  x_neS (by kernel_rfl) (by kernel_rfl) (by kernel_rfl) hu hv (rent_eqD hx0 hy0 hx1 hy1)

set_option maxRecDepth 100000 in
set_option maxHeartbeats 1000000 in
theorem same_calls (w0 : World) {xs : List Ent} {ok : Nat → Prop} {A : Option Addr} {c : Nat} (hr : Rd TentE w0 ok A xs c) {ok2 : Nat → Prop} {A2 : Option Addr} {c2 : Nat} (hr2 : Rd TentE w0 ok2 A2 xs c2) (hbe : ∀ e ∈ xs, Byte e.1 ∧ Byte e.2) : Calls Try.prog 17 #[.slice A xs.length c, .slice A2 xs.length c2] w0 fun e w' => e = .returned (.bool true) ∧ Mods (fun _ => False) w0 w' := by
  refine calls_of_wp Try.func17 rfl ?_
  have hF := Fr.enter #[.slice A xs.length c, .slice A2 xs.length c2] 26 (slotsOf [.slice A xs.length c, .slice A2 xs.length c2] 0) (Nat.le_of_ble_eq_true rfl) (fun i v h => by have h2 := (get_slotsOf _ 0 i v h).2; simpa only [List.getElem?_toArray, Nat.sub_zero] using h2)
  have hH := Hp.nil (fun _ => False) w0
  rw [Try.ntmps17]
  revert hF; generalize (⟨(#[.slice A xs.length c, .slice A2 xs.length c2] : Array Value) ++ Array.replicate (26 - (#[.slice A xs.length c, .slice A2 xs.length c2] : Array Value).size) undef, []⟩ : Act) = a; intro hF
  have hH := hH.arg 901 hr.all (fun _ h => ⟨h, fun h => h⟩)
  have hle901 := hr.le; unfold maxLen at hle901
  have hH := hH.arg 902 hr2.all (fun _ h => ⟨h, fun h => h⟩)
  have hle902 := hr2.le; unfold maxLen at hle902
  refine wp_seq_k fun khK1 hK1 => ?_
  refine wp_region_lit ?_
  refine l_at hF rfl rfl rfl (x_assign rfl) ?_; clear hF; intro a hF
  refine wpList_nil ?_
  refine hK1 _ _ ?_
  refine wp_seq_k fun khK2 hK2 => ?_
  refine wp_seq_k fun khK3 hK3 => ?_
  refine wp_region_lit ?_
  refine l_at hF rfl rfl rfl (x_move (hF.tmp 0 rfl)) ?_; clear hF; intro a hF
  refine l_at hF rfl rfl rfl (x_len_slice Try.underlying38 (hF.tmp 6 rfl)) ?_; clear hF; intro a hF
  refine l_at hF rfl rfl rfl (x_move (hF.tmp 1 rfl)) ?_; clear hF; intro a hF
  refine l_at hF rfl rfl rfl (x_len_slice Try.underlying38 (hF.tmp 8 rfl)) ?_; clear hF; intro a hF
  refine l_at hF rfl rfl rfl (x_neq (hF.tmp 7 rfl) (hF.tmp 9 rfl)) ?_; clear hF; intro a hF
  rw [decide_eq_true rfl] at hF
  refine wpList_nil ?_
  refine hK3 _ _ ?_
  refine wp_cond_false (hF.tmp 10 rfl) ?_
  refine wp_skip ?_
  refine hK2 _ _ ?_
  refine wp_seq_k fun khK4 hK4 => ?_
  refine wp_seq_k fun khK5 hK5 => ?_
  refine wp_region_lit ?_
  refine l_at hF rfl rfl rfl (x_assign rfl) ?_; clear hF; intro a hF
  refine wpList_nil ?_
  refine hK5 _ _ ?_
  refine wp_block ?_
  refine wp_loop_ghost (fun n_ a w => ∃ i : Nat, n_ = xs.length - i ∧ (i ≤ xs.length) ∧ Fr 26 a [(0, .slice A xs.length c), (1, .slice A2 xs.length c2), (5, .int .i64 (i : Int))] ∧ Hp (fun _ => False) w0 w [(901, .rd_ TentE A xs c (fun k => k < w0.heap.size)), (902, .rd_ TentE A2 xs c2 (fun k => k < w0.heap.size))]) (xs.length) ?_ ?_
  · exact ⟨0, rfl, Nat.zero_le _, (((hF.bare.add hF 5 rfl).add hF 1 rfl).add hF 0 rfl), hH.sub _ (sub_cons (sub_cons (sub_nil _) 902 rfl) 901 rfl)⟩
  · rintro _ a w ⟨i, rfl, hq0_0, hF, hH⟩
    refine wp_seq_k fun khK6 hK6 => ?_
    refine wp_seq_k fun khK7 hK7 => ?_
    refine wp_region_lit ?_
    refine l_at hF rfl rfl rfl (x_move (hF.tmp 5 rfl)) ?_; clear hF; intro a hF
    refine l_at hF rfl rfl rfl (x_move (hF.tmp 0 rfl)) ?_; clear hF; intro a hF
    refine l_at hF rfl rfl rfl (x_len_slice Try.underlying38 (hF.tmp 12 rfl)) ?_; clear hF; intro a hF
    refine l_at hF rfl rfl rfl (x_lss (hF.tmp 11 rfl) (hF.tmp 13 rfl)) ?_; clear hF; intro a hF
    refine wpList_nil ?_
    refine hK7 _ _ ?_
    refine wp_cond_split (hF.tmp 14 rfl) (fun hc14 => ?_) (fun hc14 => ?_)
    · have hk14_1 := hc14; try simp only [Bool.or_eq_true, Bool.and_eq_true, Bool.or_eq_false_iff, Bool.and_eq_false_iff, Bool.not_eq_true', Bool.not_eq_false', decide_eq_true_eq, decide_eq_false_iff_not, Bool.not_true, Bool.not_false] at hc14
      obtain ⟨hf1_0, hf1_1, hfw1⟩ := rd_tent ((hH.rd 901 rfl)) (gtent_some (xs := xs) (i := (i : Int)) (by omega) (by omega))
      have hH := hH.subcels 901 rfl 1499 hfw1 (Rd.inok ((hH.rd 901 rfl)) (by omega) _)
      have hH := hH.subcel 901 rfl 1500 hf1_0 (Rd.inok ((hH.rd 901 rfl)) (by omega) _)
      have hH := hH.subcel 901 rfl 1501 hf1_1 (Rd.inok ((hH.rd 901 rfl)) (by omega) _)
      obtain ⟨hf2_0, hf2_1, hfw2⟩ := rd_tent ((hH.rd 902 rfl)) (gtent_some (xs := xs) (i := (i : Int)) (by omega) (by omega))
      have hH := hH.subcels 902 rfl 2499 hfw2 (Rd.inok ((hH.rd 902 rfl)) (by omega) _)
      have hH := hH.subcel 902 rfl 2500 hf2_0 (Rd.inok ((hH.rd 902 rfl)) (by omega) _)
      have hH := hH.subcel 902 rfl 2501 hf2_1 (Rd.inok ((hH.rd 902 rfl)) (by omega) _)
      refine wp_skip ?_
      refine hK6 _ _ ?_
      refine wp_seq_k fun khK8 hK8 => ?_
      refine wp_block ?_
      refine wp_seq_k fun khK9 hK9 => ?_
      refine r_start [(901, .rd_ TentE A xs c (fun k => k < w0.heap.size)), (902, .rd_ TentE A2 xs c2 (fun k => k < w0.heap.size)), (1499, .cels (adr A (Int.toNat (i : Int) * 2)) #[.string (strOfNums (gtent xs (i : Int)).1), .string (strOfNums (gtent xs (i : Int)).2)]), (1500, .cel (adr A (Int.toNat (i : Int) * 2)) (.string (strOfNums (gtent xs (i : Int)).1))), (1501, .cel (adr A (Int.toNat (i : Int) * 2 + 1)) (.string (strOfNums (gtent xs (i : Int)).2))), (2499, .cels (adr A2 (Int.toNat (i : Int) * 2)) #[.string (strOfNums (gtent xs (i : Int)).1), .string (strOfNums (gtent xs (i : Int)).2)]), (2500, .cel (adr A2 (Int.toNat (i : Int) * 2)) (.string (strOfNums (gtent xs (i : Int)).1))), (2501, .cel (adr A2 (Int.toNat (i : Int) * 2 + 1)) (.string (strOfNums (gtent xs (i : Int)).2)))] (by kernel_rfl) hH fun hH => ?_
      have hS : SL [(901, .rd_ TentE A xs c (fun k => k < w0.heap.size)), (902, .rd_ TentE A2 xs c2 (fun k => k < w0.heap.size)), (1499, .cels (adr A (Int.toNat (i : Int) * 2)) #[.string (strOfNums (gtent xs (i : Int)).1), .string (strOfNums (gtent xs (i : Int)).2)]), (1500, .cel (adr A (Int.toNat (i : Int) * 2)) (.string (strOfNums (gtent xs (i : Int)).1))), (1501, .cel (adr A (Int.toNat (i : Int) * 2 + 1)) (.string (strOfNums (gtent xs (i : Int)).2))), (2499, .cels (adr A2 (Int.toNat (i : Int) * 2)) #[.string (strOfNums (gtent xs (i : Int)).1), .string (strOfNums (gtent xs (i : Int)).2)]), (2500, .cel (adr A2 (Int.toNat (i : Int) * 2)) (.string (strOfNums (gtent xs (i : Int)).1))), (2501, .cel (adr A2 (Int.toNat (i : Int) * 2 + 1)) (.string (strOfNums (gtent xs (i : Int)).2)))] _ := SL.of hH (sub_cons (sub_cons (sub_cons (sub_cons (sub_cons (sub_cons (sub_cons (sub_cons (sub_nil _) 2501 rfl) 2500 rfl) 2499 rfl) 1501 rfl) 1500 rfl) 1499 rfl) 902 rfl) 901 rfl)
      refine r_take 0 hF rfl rfl rfl (by kernel_rfl) (by kernel_rfl) (by kernel_rfl) (fun _ _ _ h => h) rfl hS (fun w hS => x_move (hF.tmp 0 rfl)) rfl ?_; clear hF; intro a hF
      refine r_take 1 hF rfl rfl rfl (by kernel_rfl) (by kernel_rfl) (by kernel_rfl) (fun _ _ _ h => h) rfl hS (fun w hS => x_move (hF.tmp 5 rfl)) rfl ?_; clear hF; intro a hF
      refine r_take 2 hF rfl rfl rfl (by kernel_rfl) (by kernel_rfl) (by kernel_rfl) (fun _ _ _ h => h) rfl hS (fun w hS => x_iaddr_A Try.underlying38 ty48 ((hH.rd 901 rfl)) (hF.tmp 17 rfl) (hF.tmp 18 rfl) (by omega) (by omega) _) rfl ?_; clear hF; intro a hF
      refine r_take 3 hF rfl rfl rfl (by kernel_rfl) (by kernel_rfl) (by kernel_rfl) (fun _ _ _ h => h) rfl hS (fun w hS => x_loadn ty48 (hF.tmp 19 rfl) rfl (hS 1499 _ rfl)) rfl ?_; clear hF; intro a hF
      refine r_take 4 hF rfl rfl rfl (by kernel_rfl) (by kernel_rfl) (by kernel_rfl) (fun _ _ _ h => h) rfl hS (fun w hS => x_move (hF.tmp 1 rfl)) rfl ?_; clear hF; intro a hF
      refine r_take 5 hF rfl rfl rfl (by kernel_rfl) (by kernel_rfl) (by kernel_rfl) (fun _ _ _ h => h) rfl hS (fun w hS => x_move (hF.tmp 5 rfl)) rfl ?_; clear hF; intro a hF
      refine r_take 6 hF rfl rfl rfl (by kernel_rfl) (by kernel_rfl) (by kernel_rfl) (fun _ _ _ h => h) rfl hS (fun w hS => x_iaddr_A Try.underlying38 ty48 ((hH.rd 902 rfl)) (hF.tmp 21 rfl) (hF.tmp 22 rfl) (by omega) (by omega) _) rfl ?_; clear hF; intro a hF
      refine r_take 7 hF rfl rfl rfl (by kernel_rfl) (by kernel_rfl) (by kernel_rfl) (fun _ _ _ h => h) rfl hS (fun w hS => x_loadn ty48 (hF.tmp 23 rfl) rfl (hS 2499 _ rfl)) rfl ?_; clear hF; intro a hF
      refine r_take 8 hF rfl rfl rfl (by kernel_rfl) (by kernel_rfl) (by kernel_rfl) (fun _ _ _ h => h) rfl hS (fun w hS => rent_nes (x := (gtent xs (i : Int))) (y := (gtent xs (i : Int))) (hbe _ (gtent_mem (xs := xs) (j := i) (by omega))).1 (hbe _ (gtent_mem (xs := xs) (j := i) (by omega))).1 (hbe _ (gtent_mem (xs := xs) (j := i) (by omega))).2 (hbe _ (gtent_mem (xs := xs) (j := i) (by omega))).2 (hF.tmp 20 rfl) (hF.tmp 24 rfl)) rfl ?_; clear hF; intro a hF
      rw [decide_eq_true rfl] at hF
      refine r_end (by kernel_rfl) ?_; clear hS
      refine hK9 _ _ ?_
      refine wp_cond_false (hF.tmp 25 rfl) ?_
      refine wp_skip ?_
      refine hK8 _ _ ?_
      refine wp_region_lit ?_
      refine l_at hF rfl rfl rfl (x_move (hF.tmp 5 rfl)) ?_; clear hF; intro a hF
      refine l_at hF rfl rfl rfl (x_add (hF.tmp 15 rfl) rfl (show IntKind.i64.wrap _ = ((i + 1 : Nat) : Int) from by rw [w64 (by omega) (by omega)] <;> omega)) ?_; clear hF; intro a hF
      refine l_at hF rfl rfl rfl (x_assign (hF.tmp 16 rfl)) ?_; clear hF; intro a hF
      refine wpList_nil ?_
      exact ⟨_, by omega, ⟨i + 1, rfl, by omega, (((hF.bare.add hF 5 rfl).add hF 1 rfl).add hF 0 rfl), hH.sub _ (sub_cons (sub_cons (sub_nil _) 902 rfl) 901 rfl)⟩⟩
    · have hk14_2 := hc14; try simp only [Bool.or_eq_true, Bool.and_eq_true, Bool.or_eq_false_iff, Bool.and_eq_false_iff, Bool.not_eq_true', Bool.not_eq_false', decide_eq_true_eq, decide_eq_false_iff_not, Bool.not_true, Bool.not_false] at hc14
      refine wp_exit ?_
      refine hK4 _ _ ?_
      refine wp_seq_k fun khK10 hK10 => ?_
      refine wp_region_lit ?_
      refine l_at hF rfl rfl rfl (x_assign rfl) ?_; clear hF; intro a hF
      refine wpList_nil ?_
      refine hK10 _ _ ?_
      refine wp_ret ?_
      try simp only [Exit.then, Exit.inBlock]
      exact fin_ret hF (res1 (v := .bool true) hF rfl rfl) ⟨rfl, hH.mods⟩

theorem walkL_all2 {l : List Ent} (h : l.length ≤ 240) : walkL l [] 1000 = l := by
  unfold walkL; rw [if_neg (by decide), underL_nil, List.take_of_length_le (by show _ ≤ 1000; omega)]
theorem drop_drop9 {l : List Ent} {i : Nat} (hs : Sorted l) (h : i < l.length) : dropL (l.drop i) (gtent l (i : Int)).1 = l.drop (i + 1) := by
  have e : l.drop i = ge9 l i :: l.drop (i + 1) := by
    rw [List.drop_eq_getElem_cons h]; unfold ge9; rw [List.getD_eq_getElem?_getD, List.getElem?_eq_getElem h]; rfl
  have hs2 : (ge9 l i :: l.drop (i + 1)).Pairwise (fun a b => lxl a.1 b.1 = true) := e ▸ (List.Pairwise.drop hs)
  rw [e]
  unfold dropL
  rw [List.filter_cons_of_neg (by show ¬ (!decide ((ge9 l i).1 = (ge9 l i).1)) = true; simp), List.filter_eq_self]
  intro x hx
  have h1 := lxl_ne ((List.pairwise_cons.1 hs2).1 x hx)
  show (!decide (x.1 = (ge9 l i).1)) = true
  simpa using fun h2 => h1 h2.symm
theorem al_drop9 {l : List Ent} {i : Nat} (hs : Sorted l) (h : i < l.length) : al (l.drop i) (gtent l (i : Int)).1 = some (gtent l (i : Int)).2 := by
  refine al_of_mem (Sorted.keys (List.Pairwise.drop hs)) ?_
  rw [List.drop_eq_getElem_cons h]
  have : gtent l (i : Int) = l[i] := by show l.getD i ([], []) = _; rw [List.getD_eq_getElem?_getD, List.getElem?_eq_getElem h]; rfl
  rw [this]; exact List.mem_cons_self ..
theorem al_drop10 {l : List Ent} {i : Nat} (hs : Sorted l) (h : i < l.length) : al (l.drop (i + 1)) (gtent l (i : Int)).1 = none := by
  rw [← drop_drop9 hs h]
  cases h9 : al (dropL (l.drop i) (gtent l (i : Int)).1) (gtent l (i : Int)).1 with
  | none => rfl
  | some x => exact absurd rfl ((mem_dropL _).1 (al_mem h9)).2
end Go.Proofs.Ytlcnoibjhmflnaa.Act
