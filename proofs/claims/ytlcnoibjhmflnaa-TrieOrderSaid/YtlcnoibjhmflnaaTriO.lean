/- TrieOrder. -/
import Derived.Test.YtlcnoibjhmflnaaTriL
import Derived.Test.YtlcnoibjhmflnaaTrF
import Derived.Test.YtlcnoibjhmflnaaSeq
set_option linter.unusedVariables false
set_option linter.unusedSimpArgs false
namespace Go.Proofs.Ytlcnoibjhmflnaa.Act
open Go.RowKit Go.Proofs.Ytlcnoibjhmflnaa.Sx Go.Sort Go.Proofs.Ytlcnoibjhmflnaa.Cod
theorem tent_ge (l : List EntT) (i : Nat) : gtent l (i : Int) = ge9 l i := rfl
theorem al_tent {l : List Ent} {i : Nat} (hs : Sorted l) (h : i < l.length) : al l (gtent l (i : Int)).1 = some (gtent l (i : Int)).2 := al_ge9 hs h
theorem lt_tent {l : List Ent} {i : Nat} (hs : Sorted l) (h0 : 0 < i) (h : i < l.length) : lxl (gtent l ((i - 1 : Nat) : Int)).1 (gtent l (i : Int)).1 = true := ge9_lt hs h0 h
theorem at_tent {l : List Ent} {pre : Str} {i : Nat} (h : i < l.length) (hp : pre <+: (gtent l (i : Int)).1) : (underL (l.take i) pre).length < (underL l pre).length ∧ gtent (underL l pre) ((underL (l.take i) pre).length : Int) = gtent l (i : Int) := under_at h hp
set_option maxRecDepth 100000 in
theorem tent_eqD {w : World} {x y : EntT} (hx0 : Byte x.1) (hy0 : Byte y.1) (hx1 : Byte x.2) (hy1 : Byte y.2) : (Op.eqFields 9999 #[.string (strOfNums x.1), .string (strOfNums x.2)] #[.string (strOfNums y.1), .string (strOfNums y.2)] (Try.prog.fieldsOf 30).toList).run Try.prog w = .ok (decide (x = y)) w := by
  have key : (x = y) = (x.1 = y.1 ∧ x.2 = y.2) := propext (by obtain ⟨x0, x1⟩ := x; obtain ⟨y0, y1⟩ := y; simp)
  have key2 : decide (x = y) = decide (x.1 = y.1 ∧ x.2 = y.2) := by simp only [key]
  rw [key2]
  simp only [Program.fieldsOf, Try.underlying30]
  simp [Op.eqFields, part, go_sem, tl_eq]
  have hs0 : (strOfNums x.1 = strOfNums y.1) = (x.1 = y.1) := propext ⟨sn_inj _ _ hx0 hy0, fun h => by rw [h]⟩
  have hs1 : (strOfNums x.2 = strOfNums y.2) = (x.2 = y.2) := propext ⟨sn_inj _ _ hx1 hy1, fun h => by rw [h]⟩
  simp only [hs0, hs1]
  by_cases h0 : x.1 = y.1 <;> by_cases h1 : x.2 = y.2 <;> simp [h0, h1]
theorem tent_eqs {dst : Option Tmp} {ty t' : TypeId} {pos : String} {af : Array Edge} {gg : Option (Nat × Bool)} {a : Act} {w : World} {u v : Operand} {x y : EntT} (hx0 : Byte x.1) (hy0 : Byte y.1) (hx1 : Byte x.2) (hy1 : Byte y.2) (hu : a.eval u = .agg #[.string (strOfNums x.1), .string (strOfNums x.2)]) (hv : a.eval v = .agg #[.string (strOfNums y.1), .string (strOfNums y.2)]) : At Try.prog ⟨dst, .binOp .eql 30 u v t', ty, pos, af, gg⟩ a w (.bool (decide (x = y))) :=
  x_eqS (by kernel_rfl) (by kernel_rfl) (by kernel_rfl) hu hv (tent_eqD hx0 hy0 hx1 hy1)
theorem tent_nes {dst : Option Tmp} {ty t' : TypeId} {pos : String} {af : Array Edge} {gg : Option (Nat × Bool)} {a : Act} {w : World} {u v : Operand} {x y : EntT} (hx0 : Byte x.1) (hy0 : Byte y.1) (hx1 : Byte x.2) (hy1 : Byte y.2) (hu : a.eval u = .agg #[.string (strOfNums x.1), .string (strOfNums x.2)]) (hv : a.eval v = .agg #[.string (strOfNums y.1), .string (strOfNums y.2)]) : At Try.prog ⟨dst, .binOp .neq 30 u v t', ty, pos, af, gg⟩ a w (.bool (!decide (x = y))) :=
  x_neS (by kernel_rfl) (by kernel_rfl) (by kernel_rfl) hu hv (tent_eqD hx0 hy0 hx1 hy1)

set_option maxRecDepth 100000 in
set_option maxHeartbeats 1000000 in
theorem tOrder_calls (w0 : World) {script : List TactD} {ok : Nat → Prop} {A : Option Addr} {c : Nat} (hr : Rd TactE w0 ok A script c) (hB : ∀ x ∈ script, TactB x) {pre : List Int} (hkb : Byte pre) : Calls Try.prog 3 #[.slice A script.length c, .string (strOfNums pre)] w0 fun e w' => e = .returned (.bool true) ∧ Mods (fun _ => False) w0 w' := by
  refine calls_of_wp Try.func3 rfl ?_
  have hF := Fr.enter #[.slice A script.length c, .string (strOfNums pre)] 125 (slotsOf [.slice A script.length c, .string (strOfNums pre)] 0) (Nat.le_of_ble_eq_true rfl) (fun i v h => by have h2 := (get_slotsOf _ 0 i v h).2; simpa only [List.getElem?_toArray, Nat.sub_zero] using h2)
  have hH := Hp.nil (fun _ => False) w0
  rw [Try.ntmps3]
  revert hF; generalize (⟨(#[.slice A script.length c, .string (strOfNums pre)] : Array Value) ++ Array.replicate (125 - (#[.slice A script.length c, .string (strOfNums pre)] : Array Value).size) undef, []⟩ : Act) = a; intro hF
  have hH := hH.arg 901 hr.all (fun _ h => ⟨h, fun h => h⟩)
  have hle901 := hr.le; unfold maxLen at hle901
  refine wp_seq_k fun khK1 hK1 => ?_
  refine wp_region_lit ?_
  refine l_at hF rfl rfl rfl (x_assign rfl) ?_; clear hF; intro a hF
  refine wpList_nil ?_
  refine hK1 _ _ ?_
  refine wp_seq_k fun khK2 hK2 => ?_
  refine wp_region_lit ?_
  refine l_at hF rfl rfl rfl (x_move (hF.tmp 0 rfl)) ?_; clear hF; intro a hF
  refine wpList_plain rfl fun K hK => ?_
  refine w_call hF (x_enter Try.func9 (by kernel_rfl) rfl (by simp only [List.map_toArray, List.map_cons, List.map_nil, hF.tmp 12 rfl] <;> rfl)) (built_calls _ ((hH.rd 901 rfl)) hB) rfl rfl ?_
  rintro _ w ⟨tb, X, l, rfl, hX, hl120, hm_, hxo_, hxn_, hxr_⟩; refine ⟨_, rfl, ?_⟩; clear hF; intro a hF; have hH := hH.newX 100 hm_ hxo_ hxn_ hxr_
  refine hK _ _ ?_; clear hK K
  refine l_at hF rfl rfl rfl (x_assign (hF.tmp 13 rfl)) ?_; clear hF; intro a hF
  refine wpList_nil ?_
  refine hK2 _ _ ?_
  refine wp_seq_k fun khK3 hK3 => ?_
  refine wp_seq_k fun khK4 hK4 => ?_
  refine wp_region_lit ?_
  refine l_at hF rfl rfl rfl (x_move (hF.tmp 5 rfl)) ?_; clear hF; intro a hF
  refine l_at hF rfl rfl rfl (x_ptrnil Try.underlying23 (hF.tmp 14 rfl) rfl) ?_; clear hF; intro a hF
  refine l_at hF rfl rfl rfl (x_move (hF.tmp 15 rfl)) ?_; clear hF; intro a hF
  refine l_atg hF ((wanted_of hF rfl rfl rfl rfl).trans rfl) rfl rfl (x_move (hF.tmp 1 rfl)) ?_; clear hF; intro a hF
  refine l_atg hF ((wanted_of hF rfl rfl rfl rfl).trans rfl) rfl rfl (x_len_sn (xs := pre) Try.underlying9 (hF.tmp 17 rfl)) ?_; clear hF; intro a hF
  refine l_atg hF ((wanted_of hF rfl rfl rfl rfl).trans rfl) rfl rfl (x_gtr (hF.tmp 18 rfl) rfl) ?_; clear hF; intro a hF
  refine l_at hF rfl rfl rfl (x_pickF (hF.tmp 16 rfl) rfl (hF.tmp 19 rfl)) ?_; clear hF; intro a hF
  refine wpList_nil ?_
  refine hK4 _ _ ?_
  refine wp_cond_split (hF.tmp 20 rfl) (fun hc20 => ?_) (fun hc20 => ?_)
  · have hk20_1 := hc20; try simp only [Bool.or_eq_true, Bool.and_eq_true, Bool.or_eq_false_iff, Bool.and_eq_false_iff, Bool.not_eq_true', Bool.not_eq_false', decide_eq_true_eq, decide_eq_false_iff_not, Bool.not_true, Bool.not_false] at hc20
    refine wp_seq_k fun khK5 hK5 => ?_
    refine wp_region_lit ?_
    refine l_at hF rfl rfl rfl (x_move (hF.tmp 5 rfl)) ?_; clear hF; intro a hF
    refine l_at hF rfl rfl rfl (x_ptrne Try.underlying23 (hF.tmp 21 rfl) rfl) ?_; clear hF; intro a hF
    refine l_at hF rfl rfl rfl (x_assign (hF.tmp 22 rfl)) ?_; clear hF; intro a hF
    refine wpList_nil ?_
    refine hK5 _ _ ?_
    refine wp_ret ?_
    try simp only [Exit.then, Exit.inBlock]
    exact fin_ret hF (res1 (v := .bool true) hF rfl rfl) ⟨rfl, hH.mods⟩
  · have hk20_2 := hc20; try simp only [Bool.or_eq_true, Bool.and_eq_true, Bool.or_eq_false_iff, Bool.and_eq_false_iff, Bool.not_eq_true', Bool.not_eq_false', decide_eq_true_eq, decide_eq_false_iff_not, Bool.not_true, Bool.not_false] at hc20
    refine wp_skip ?_
    refine hK3 _ _ ?_
    refine wp_seq_k fun khK6 hK6 => ?_
    refine wp_region_lit ?_
    refine l_at hF rfl rfl rfl (x_move (hF.tmp 5 rfl)) ?_; clear hF; intro a hF
    refine wpList_plain rfl fun K hK => ?_
    refine w_call hF (x_enter Try.func10 (by kernel_rfl) rfl (by simp only [List.map_toArray, List.map_cons, List.map_nil, hF.tmp 23 rfl] <;> kernel_rfl)) (walk_calls (pre := ([] : List Int)) _ hX (hH.okX 100 rfl) (by unfold Byte; decide) (by decide) (most := 120) (by omega) (by omega) (by omega) (by unfold kmax; omega)) rfl rfl ?_
    rintro _ w ⟨vr60, rfl, hm_, hr_⟩; refine ⟨_, rfl, ?_⟩; clear hF; intro a hF; have hH := Hp.rowOut hH 60 hm_ hr_; obtain ⟨Ar60, cr60, rfl⟩ := (hH.row 60 rfl).form
    refine hK _ _ ?_; clear hK K
    rw [walkL_all hl120] at hF hH
    have hH := hH.freeze 60 rfl (fun kb => (Value.slice Ar60 l.length cr60).ownBlock = some kb) (fun kb => ⟨fun h => .inr h, fun h => h.resolve_left id⟩)
    refine l_at hF rfl rfl rfl (x_assign (hF.tmp 24 rfl)) ?_; clear hF; intro a hF
    refine wpList_nil ?_
    refine hK6 _ _ ?_
    refine wp_seq_k fun khK7 hK7 => ?_
    refine wp_region_lit ?_
    refine l_at hF rfl rfl rfl (x_move (hF.tmp 5 rfl)) ?_; clear hF; intro a hF
    refine l_at hF rfl rfl rfl (x_move (hF.tmp 1 rfl)) ?_; clear hF; intro a hF
    refine wpList_plain rfl fun K hK => ?_
    refine w_call hF (x_enter Try.func10 (by kernel_rfl) rfl (by simp only [List.map_toArray, List.map_cons, List.map_nil, hF.tmp 25 rfl, hF.tmp 26 rfl] <;> rfl)) (walk_calls (pre := pre) _ hX (hH.okX 100 rfl) hkb (by omega) (most := 120) (by omega) (by omega) (by omega) (by unfold kmax; omega)) rfl rfl ?_
    rintro _ w ⟨vr61, rfl, hm_, hr_⟩; refine ⟨_, rfl, ?_⟩; clear hF; intro a hF; have hH := Hp.rowOut hH 61 hm_ hr_; obtain ⟨Ar61, cr61, rfl⟩ := (hH.row 61 rfl).form
    refine hK _ _ ?_; clear hK K
    rw [walkL_under hl120] at hF hH
    have hH := hH.freeze 61 rfl (fun kb => (Value.slice Ar61 (underL l pre).length cr61).ownBlock = some kb) (fun kb => ⟨fun h => .inr h, fun h => h.resolve_left id⟩)
    refine l_at hF rfl rfl rfl (x_assign (hF.tmp 27 rfl)) ?_; clear hF; intro a hF
    refine wpList_nil ?_
    refine hK7 _ _ ?_
    refine wp_seq_k fun khK8 hK8 => ?_
    refine wp_region_lit ?_
    refine l_at hF rfl rfl rfl (x_assign rfl) ?_; clear hF; intro a hF
    refine wpList_nil ?_
    refine hK8 _ _ ?_
    refine wp_seq_k fun khK9 hK9 => ?_
    refine wp_seq_k fun khK10 hK10 => ?_
    refine wp_region_lit ?_
    refine l_at hF rfl rfl rfl (x_assign rfl) ?_; clear hF; intro a hF
    refine wpList_nil ?_
    refine hK10 _ _ ?_
    refine wp_block ?_
    refine wp_loop_ghost (fun n_ a w => ∃ i : Nat, ∃ k : Nat, n_ = l.length - i ∧ (i ≤ l.length) ∧ (k = (underL (l.take i) pre).length) ∧ (k ≤ i) ∧ Fr 125 a [(1, .string (strOfNums pre)), (5, .pointer (some ⟨tb, 0, none⟩)), (6, .slice Ar60 l.length cr60), (7, .slice Ar61 (underL l pre).length cr61), (8, .int .i64 (k : Int)), (9, .int .i64 (i : Int))] ∧ Hp (fun _ => False) w0 w [(901, .rd_ TactE A script c (fun k => k < w0.heap.size)), (100, X), (60, .rd_ TentE Ar60 l cr60 (fun kb => (Value.slice Ar60 l.length cr60).ownBlock = some kb)), (61, .rd_ TentE Ar61 (underL l pre) cr61 (fun kb => (Value.slice Ar61 (underL l pre).length cr61).ownBlock = some kb))]) (l.length) ?_ ?_
    · exact ⟨0, 0, rfl, Nat.zero_le _, rfl, Nat.le_refl _, ((((((hF.bare.add hF 9 rfl).add hF 8 rfl).add hF 7 rfl).add hF 6 rfl).add hF 5 rfl).add hF 1 rfl), hH.sub _ (sub_cons (sub_cons (sub_cons (sub_cons (sub_nil _) 61 rfl) 60 rfl) 100 rfl) 901 rfl)⟩
    · rintro _ a w ⟨i, k, rfl, hq0_0, hq0_1, hq0_2, hF, hH⟩
      refine wp_seq_k fun khK11 hK11 => ?_
      refine wp_seq_k fun khK12 hK12 => ?_
      refine wp_region_lit ?_
      refine l_at hF rfl rfl rfl (x_move (hF.tmp 9 rfl)) ?_; clear hF; intro a hF
      refine l_at hF rfl rfl rfl (x_move (hF.tmp 6 rfl)) ?_; clear hF; intro a hF
      refine l_at hF rfl rfl rfl (x_len_slice Try.underlying25 (hF.tmp 29 rfl)) ?_; clear hF; intro a hF
      refine l_at hF rfl rfl rfl (x_lss (hF.tmp 28 rfl) (hF.tmp 30 rfl)) ?_; clear hF; intro a hF
      refine wpList_nil ?_
      refine hK12 _ _ ?_
      refine wp_cond_split (hF.tmp 31 rfl) (fun hc31 => ?_) (fun hc31 => ?_)
      · have hk31_3 := hc31; try simp only [Bool.or_eq_true, Bool.and_eq_true, Bool.or_eq_false_iff, Bool.and_eq_false_iff, Bool.not_eq_true', Bool.not_eq_false', decide_eq_true_eq, decide_eq_false_iff_not, Bool.not_true, Bool.not_false] at hc31
        refine wp_skip ?_
        refine hK11 _ _ ?_
        refine wp_seq_k fun khK13 hK13 => ?_
        refine wp_block ?_
        refine wp_seq_k fun khK14 hK14 => ?_
        refine wp_region_lit ?_
        refine l_at hF rfl rfl rfl (x_move (hF.tmp 5 rfl)) ?_; clear hF; intro a hF
        refine l_at hF rfl rfl rfl (x_move (hF.tmp 6 rfl)) ?_; clear hF; intro a hF
        refine l_at hF rfl rfl rfl (x_move (hF.tmp 9 rfl)) ?_; clear hF; intro a hF
        obtain ⟨hf1_0, hf1_1, hfw1⟩ := rd_tent ((hH.rd 60 rfl)) (gtent_some (xs := l) (i := (i : Int)) (by omega) (by omega))
        have hH := hH.subcels 60 rfl 1499 hfw1 (Rd.inok ((hH.rd 60 rfl)) (by omega) _)
        have hH := hH.subcel 60 rfl 1500 hf1_0 (Rd.inok ((hH.rd 60 rfl)) (by omega) _)
        have hH := hH.subcel 60 rfl 1501 hf1_1 (Rd.inok ((hH.rd 60 rfl)) (by omega) _)
        obtain ⟨hf2_0, hf2_1, hfw2⟩ := rd_tent ((hH.rd 60 rfl)) (gtent_some (xs := l) (i := ((i - 1 : Nat) : Int)) (by omega) (by omega))
        have hH := hH.subcels 60 rfl 2499 hfw2 (Rd.inok ((hH.rd 60 rfl)) (by omega) _)
        have hH := hH.subcel 60 rfl 2500 hf2_0 (Rd.inok ((hH.rd 60 rfl)) (by omega) _)
        have hH := hH.subcel 60 rfl 2501 hf2_1 (Rd.inok ((hH.rd 60 rfl)) (by omega) _)
        refine l_at hF rfl rfl rfl (x_iaddr_A Try.underlying25 ty30 ((hH.rd 60 rfl)) (hF.tmp 36 rfl) (hF.tmp 37 rfl) (by omega) (by omega) _) ?_; clear hF; intro a hF
        refine l_at hF rfl rfl rfl (x_faddrA ((hH.rd 60 rfl)) (by omega) _ Try.underlying30 rfl ty9 (by decide) (hF.tmp 38 rfl) rfl) ?_; clear hF; intro a hF
        refine l_at hF rfl rfl rfl (x_load1 ty9 (hF.tmp 39 rfl) (hH.holds 1500 _ rfl)) ?_; clear hF; intro a hF
        refine wpList_plain rfl fun K hK => ?_
        refine w_call hF (x_enter Try.func11 (by kernel_rfl) rfl (by simp only [List.map_toArray, List.map_cons, List.map_nil, hF.tmp 35 rfl, hF.tmp 40 rfl] <;> rfl)) (get_calls (key := ((gtent l (i : Int)).1)) _ hX (hH.okX 100 rfl) ((TrieA.byte hX (gtent_mem (xs := l) (j := i) (by omega))).1.1) ((TrieA.byte hX (gtent_mem (xs := l) (j := i) (by omega))).1.2)) rfl rfl ?_
        rintro _ w ⟨rfl, hm_⟩; refine ⟨_, rfl, ?_⟩; clear hF; intro a hF; have hH := hH.same hm_
        refine hK _ _ ?_; clear hK K
        rw [al_tent (TrieA.sorted hX) (by omega)] at hF
        refine l_at hF rfl rfl rfl (x_move (hF.tmp 41 rfl)) ?_; clear hF; intro a hF
        refine l_at hF rfl rfl rfl (x_extract (hF.tmp 34 rfl) rfl) ?_; clear hF; intro a hF
        refine l_at hF rfl rfl rfl (x_extract (hF.tmp 34 rfl) rfl) ?_; clear hF; intro a hF
        refine l_at hF rfl rfl rfl (x_assign (hF.tmp 42 rfl)) ?_; clear hF; intro a hF
        refine l_at hF rfl rfl rfl (x_assign (hF.tmp 43 rfl)) ?_; clear hF; intro a hF
        refine wpList_nil ?_
        refine hK14 _ _ ?_
        refine wp_seq_k fun khK15 hK15 => ?_
        refine wp_seq_k fun khK16 hK16 => ?_
        have hJr11 : ∀ a w, Fr 125 a [(1, .string (strOfNums pre)), (5, .pointer (some ⟨tb, 0, none⟩)), (6, .slice Ar60 l.length cr60), (7, .slice Ar61 (underL l pre).length cr61), (8, .int .i64 (k : Int)), (9, .int .i64 (i : Int)), (72, .bool false)] → Hp (fun _ => False) w0 w [(901, .rd_ TactE A script c (fun k => k < w0.heap.size)), (100, X), (60, .rd_ TentE Ar60 l cr60 (fun kb => (Value.slice Ar60 l.length cr60).ownBlock = some kb)), (61, .rd_ TentE Ar61 (underL l pre) cr61 (fun kb => (Value.slice Ar61 (underL l pre).length cr61).ownBlock = some kb)), (1499, .cels (adr Ar60 (Int.toNat (i : Int) * 2)) #[.string (strOfNums (gtent l (i : Int)).1), .string (strOfNums (gtent l (i : Int)).2)]), (1500, .cel (adr Ar60 (Int.toNat (i : Int) * 2)) (.string (strOfNums (gtent l (i : Int)).1))), (1501, .cel (adr Ar60 (Int.toNat (i : Int) * 2 + 1)) (.string (strOfNums (gtent l (i : Int)).2))), (2499, .cels (adr Ar60 (Int.toNat ((i - 1 : Nat) : Int) * 2)) #[.string (strOfNums (gtent l ((i - 1 : Nat) : Int)).1), .string (strOfNums (gtent l ((i - 1 : Nat) : Int)).2)]), (2500, .cel (adr Ar60 (Int.toNat ((i - 1 : Nat) : Int) * 2)) (.string (strOfNums (gtent l ((i - 1 : Nat) : Int)).1))), (2501, .cel (adr Ar60 (Int.toNat ((i - 1 : Nat) : Int) * 2 + 1)) (.string (strOfNums (gtent l ((i - 1 : Nat) : Int)).2)))] → khK16 a w := by
          intro a w  hF hH
          refine hK16 a w ?_
          refine wp_cond_false (hF.tmp 72 rfl) ?_
          refine wp_skip ?_
          refine hK15 _ _ ?_
          refine wp_seq_k fun khK17 hK17 => ?_
          have hJr13 : ∀ a w, ∀ c13 : Bool, (c13 = decide (pre <+: (gtent l (i : Int)).1)) → Fr 125 a [(1, .string (strOfNums pre)), (5, .pointer (some ⟨tb, 0, none⟩)), (6, .slice Ar60 l.length cr60), (7, .slice Ar61 (underL l pre).length cr61), (8, .int .i64 (k : Int)), (9, .int .i64 (i : Int)), (93, .bool c13)] → Hp (fun _ => False) w0 w [(901, .rd_ TactE A script c (fun k => k < w0.heap.size)), (100, X), (60, .rd_ TentE Ar60 l cr60 (fun kb => (Value.slice Ar60 l.length cr60).ownBlock = some kb)), (61, .rd_ TentE Ar61 (underL l pre) cr61 (fun kb => (Value.slice Ar61 (underL l pre).length cr61).ownBlock = some kb)), (1499, .cels (adr Ar60 (Int.toNat (i : Int) * 2)) #[.string (strOfNums (gtent l (i : Int)).1), .string (strOfNums (gtent l (i : Int)).2)]), (1500, .cel (adr Ar60 (Int.toNat (i : Int) * 2)) (.string (strOfNums (gtent l (i : Int)).1))), (1501, .cel (adr Ar60 (Int.toNat (i : Int) * 2 + 1)) (.string (strOfNums (gtent l (i : Int)).2))), (2499, .cels (adr Ar60 (Int.toNat ((i - 1 : Nat) : Int) * 2)) #[.string (strOfNums (gtent l ((i - 1 : Nat) : Int)).1), .string (strOfNums (gtent l ((i - 1 : Nat) : Int)).2)]), (2500, .cel (adr Ar60 (Int.toNat ((i - 1 : Nat) : Int) * 2)) (.string (strOfNums (gtent l ((i - 1 : Nat) : Int)).1))), (2501, .cel (adr Ar60 (Int.toNat ((i - 1 : Nat) : Int) * 2 + 1)) (.string (strOfNums (gtent l ((i - 1 : Nat) : Int)).2)))] → khK17 a w := by
            intro a w c13 hjr13_0 hF hH
            refine hK17 a w ?_
            refine wp_norm_k fun khK18 hK18 => ?_
            have hJ93 : ∀ a w, ∀ k2 : Nat, (k2 = (underL (l.take (i + 1)) pre).length) → Fr 125 a [(1, .string (strOfNums pre)), (5, .pointer (some ⟨tb, 0, none⟩)), (6, .slice Ar60 l.length cr60), (7, .slice Ar61 (underL l pre).length cr61), (8, .int .i64 (k2 : Int)), (9, .int .i64 (i : Int))] → Hp (fun _ => False) w0 w [(901, .rd_ TactE A script c (fun k => k < w0.heap.size)), (100, X), (60, .rd_ TentE Ar60 l cr60 (fun kb => (Value.slice Ar60 l.length cr60).ownBlock = some kb)), (61, .rd_ TentE Ar61 (underL l pre) cr61 (fun kb => (Value.slice Ar61 (underL l pre).length cr61).ownBlock = some kb)), (1499, .cels (adr Ar60 (Int.toNat (i : Int) * 2)) #[.string (strOfNums (gtent l (i : Int)).1), .string (strOfNums (gtent l (i : Int)).2)]), (1500, .cel (adr Ar60 (Int.toNat (i : Int) * 2)) (.string (strOfNums (gtent l (i : Int)).1))), (1501, .cel (adr Ar60 (Int.toNat (i : Int) * 2 + 1)) (.string (strOfNums (gtent l (i : Int)).2))), (2499, .cels (adr Ar60 (Int.toNat ((i - 1 : Nat) : Int) * 2)) #[.string (strOfNums (gtent l ((i - 1 : Nat) : Int)).1), .string (strOfNums (gtent l ((i - 1 : Nat) : Int)).2)]), (2500, .cel (adr Ar60 (Int.toNat ((i - 1 : Nat) : Int) * 2)) (.string (strOfNums (gtent l ((i - 1 : Nat) : Int)).1))), (2501, .cel (adr Ar60 (Int.toNat ((i - 1 : Nat) : Int) * 2 + 1)) (.string (strOfNums (gtent l ((i - 1 : Nat) : Int)).2)))] → khK18 a w := by
              intro a w k2 hj93_0 hF hH
              refine hK18 a w ?_
              refine hK13 _ _ ?_
              refine wp_region_lit ?_
              refine l_at hF rfl rfl rfl (x_move (hF.tmp 9 rfl)) ?_; clear hF; intro a hF
              refine l_at hF rfl rfl rfl (x_add (hF.tmp 32 rfl) rfl (show IntKind.i64.wrap _ = ((i + 1 : Nat) : Int) from by rw [w64 (by omega) (by omega)] <;> omega)) ?_; clear hF; intro a hF
              refine l_at hF rfl rfl rfl (x_assign (hF.tmp 33 rfl)) ?_; clear hF; intro a hF
              refine wpList_nil ?_
              exact ⟨_, by omega, ⟨i + 1, k2, rfl, by omega, hj93_0, (by rw [hj93_0]; exact Nat.le_trans (List.length_filter_le _ _) (by rw [List.length_take]; omega)), ((((((hF.bare.add hF 9 rfl).add hF 8 rfl).add hF 7 rfl).add hF 6 rfl).add hF 5 rfl).add hF 1 rfl), hH.sub _ (sub_cons (sub_cons (sub_cons (sub_cons (sub_nil _) 61 rfl) 60 rfl) 100 rfl) 901 rfl)⟩⟩
            refine wp_cond_split (hF.tmp 93 rfl) (fun hc93 => ?_) (fun hc93 => ?_)
            · have hk93_4 := hc93; try simp only [Bool.or_eq_true, Bool.and_eq_true, Bool.or_eq_false_iff, Bool.and_eq_false_iff, Bool.not_eq_true', Bool.not_eq_false', decide_eq_true_eq, decide_eq_false_iff_not, Bool.not_true, Bool.not_false] at hc93
              rw [hc93, eq_comm, decide_eq_true_eq] at hjr13_0
              have hkat := at_tent (l := l) (i := i) (by omega) hjr13_0
              rw [← hq0_1] at hkat
              have hbl := TrieA.byte hX (gtent_mem (xs := l) (j := i) (by omega))
              have hbp := TrieA.byte hX ((mem_underL.1 (gtent_mem (xs := underL l pre) (j := k) hkat.1)).1)
              have hbl := And.intro hbl.1.1 hbl.2.1
              have hbp := And.intro hbp.1.1 hbp.2.1
              obtain ⟨hf3_0, hf3_1, hfw3⟩ := rd_tent ((hH.rd 61 rfl)) (gtent_some (xs := (underL l pre)) (i := (k : Int)) (by omega) (by omega))
              have hH := hH.subcels 61 rfl 3499 hfw3 (Rd.inok ((hH.rd 61 rfl)) (by omega) _)
              have hH := hH.subcel 61 rfl 3500 hf3_0 (Rd.inok ((hH.rd 61 rfl)) (by omega) _)
              have hH := hH.subcel 61 rfl 3501 hf3_1 (Rd.inok ((hH.rd 61 rfl)) (by omega) _)
              refine wp_seq_k fun khK19 hK19 => ?_
              refine wp_seq_k fun khK20 hK20 => ?_
              refine r_start [(901, .rd_ TactE A script c (fun k => k < w0.heap.size)), (60, .rd_ TentE Ar60 l cr60 (fun kb => (Value.slice Ar60 l.length cr60).ownBlock = some kb)), (61, .rd_ TentE Ar61 (underL l pre) cr61 (fun kb => (Value.slice Ar61 (underL l pre).length cr61).ownBlock = some kb)), (1499, .cels (adr Ar60 (Int.toNat (i : Int) * 2)) #[.string (strOfNums (gtent l (i : Int)).1), .string (strOfNums (gtent l (i : Int)).2)]), (1500, .cel (adr Ar60 (Int.toNat (i : Int) * 2)) (.string (strOfNums (gtent l (i : Int)).1))), (1501, .cel (adr Ar60 (Int.toNat (i : Int) * 2 + 1)) (.string (strOfNums (gtent l (i : Int)).2))), (2499, .cels (adr Ar60 (Int.toNat ((i - 1 : Nat) : Int) * 2)) #[.string (strOfNums (gtent l ((i - 1 : Nat) : Int)).1), .string (strOfNums (gtent l ((i - 1 : Nat) : Int)).2)]), (2500, .cel (adr Ar60 (Int.toNat ((i - 1 : Nat) : Int) * 2)) (.string (strOfNums (gtent l ((i - 1 : Nat) : Int)).1))), (2501, .cel (adr Ar60 (Int.toNat ((i - 1 : Nat) : Int) * 2 + 1)) (.string (strOfNums (gtent l ((i - 1 : Nat) : Int)).2))), (3499, .cels (adr Ar61 (Int.toNat (k : Int) * 2)) #[.string (strOfNums (gtent (underL l pre) (k : Int)).1), .string (strOfNums (gtent (underL l pre) (k : Int)).2)]), (3500, .cel (adr Ar61 (Int.toNat (k : Int) * 2)) (.string (strOfNums (gtent (underL l pre) (k : Int)).1))), (3501, .cel (adr Ar61 (Int.toNat (k : Int) * 2 + 1)) (.string (strOfNums (gtent (underL l pre) (k : Int)).2)))] (by kernel_rfl) hH fun hH => ?_
              have hS : SL [(901, .rd_ TactE A script c (fun k => k < w0.heap.size)), (60, .rd_ TentE Ar60 l cr60 (fun kb => (Value.slice Ar60 l.length cr60).ownBlock = some kb)), (61, .rd_ TentE Ar61 (underL l pre) cr61 (fun kb => (Value.slice Ar61 (underL l pre).length cr61).ownBlock = some kb)), (1499, .cels (adr Ar60 (Int.toNat (i : Int) * 2)) #[.string (strOfNums (gtent l (i : Int)).1), .string (strOfNums (gtent l (i : Int)).2)]), (1500, .cel (adr Ar60 (Int.toNat (i : Int) * 2)) (.string (strOfNums (gtent l (i : Int)).1))), (1501, .cel (adr Ar60 (Int.toNat (i : Int) * 2 + 1)) (.string (strOfNums (gtent l (i : Int)).2))), (2499, .cels (adr Ar60 (Int.toNat ((i - 1 : Nat) : Int) * 2)) #[.string (strOfNums (gtent l ((i - 1 : Nat) : Int)).1), .string (strOfNums (gtent l ((i - 1 : Nat) : Int)).2)]), (2500, .cel (adr Ar60 (Int.toNat ((i - 1 : Nat) : Int) * 2)) (.string (strOfNums (gtent l ((i - 1 : Nat) : Int)).1))), (2501, .cel (adr Ar60 (Int.toNat ((i - 1 : Nat) : Int) * 2 + 1)) (.string (strOfNums (gtent l ((i - 1 : Nat) : Int)).2))), (3499, .cels (adr Ar61 (Int.toNat (k : Int) * 2)) #[.string (strOfNums (gtent (underL l pre) (k : Int)).1), .string (strOfNums (gtent (underL l pre) (k : Int)).2)]), (3500, .cel (adr Ar61 (Int.toNat (k : Int) * 2)) (.string (strOfNums (gtent (underL l pre) (k : Int)).1))), (3501, .cel (adr Ar61 (Int.toNat (k : Int) * 2 + 1)) (.string (strOfNums (gtent (underL l pre) (k : Int)).2)))] _ := SL.of hH (sub_cons (sub_cons (sub_cons (sub_cons (sub_cons (sub_cons (sub_cons (sub_cons (sub_cons (sub_cons (sub_cons (sub_cons (sub_nil _) 3501 rfl) 3500 rfl) 3499 rfl) 2501 rfl) 2500 rfl) 2499 rfl) 1501 rfl) 1500 rfl) 1499 rfl) 61 rfl) 60 rfl) 901 rfl)
              refine r_take 0 hF rfl rfl rfl (by kernel_rfl) (by kernel_rfl) (by kernel_rfl) (fun _ _ _ h => h) rfl hS (fun w hS => x_move (hF.tmp 8 rfl)) rfl ?_; clear hF; intro a hF
              refine r_take 1 hF rfl rfl rfl (by kernel_rfl) (by kernel_rfl) (by kernel_rfl) (fun _ _ _ h => h) rfl hS (fun w hS => x_move (hF.tmp 7 rfl)) rfl ?_; clear hF; intro a hF
              refine r_take 2 hF rfl rfl rfl (by kernel_rfl) (by kernel_rfl) (by kernel_rfl) (fun _ _ _ h => h) rfl hS (fun w hS => x_len_slice Try.underlying25 (hF.tmp 95 rfl)) rfl ?_; clear hF; intro a hF
              refine r_take 3 hF rfl rfl rfl (by kernel_rfl) (by kernel_rfl) (by kernel_rfl) (fun _ _ _ h => h) rfl hS (fun w hS => x_geq (hF.tmp 94 rfl) (hF.tmp 96 rfl)) rfl ?_; clear hF; intro a hF
              rw [decide_eq_false (show ¬ ((underL l pre).length : Int) ≤ (k : Int) by omega)] at hF
              refine r_take 4 hF rfl rfl rfl (by kernel_rfl) (by kernel_rfl) (by kernel_rfl) (fun _ _ _ h => h) rfl hS (fun w hS => x_move (hF.tmp 97 rfl)) rfl ?_; clear hF; intro a hF
              refine r_take 5 hF rfl rfl rfl (by kernel_rfl) (by kernel_rfl) (by kernel_rfl) (fun _ _ _ h => h) ((wanted_of hF rfl rfl rfl rfl).trans rfl) hS (fun w hS => x_move (hF.tmp 7 rfl)) rfl ?_; clear hF; intro a hF
              refine r_take 6 hF rfl rfl rfl (by kernel_rfl) (by kernel_rfl) (by kernel_rfl) (fun _ _ _ h => h) ((wanted_of hF rfl rfl rfl rfl).trans rfl) hS (fun w hS => x_move (hF.tmp 8 rfl)) rfl ?_; clear hF; intro a hF
              refine r_take 7 hF rfl rfl rfl (by kernel_rfl) (by kernel_rfl) (by kernel_rfl) (fun _ _ _ h => h) ((wanted_of hF rfl rfl rfl rfl).trans rfl) hS (fun w hS => x_iaddr_A Try.underlying25 ty30 ((hH.rd 61 rfl)) (hF.tmp 99 rfl) (hF.tmp 100 rfl) (by omega) (by omega) _) rfl ?_; clear hF; intro a hF
              refine r_take 8 hF rfl rfl rfl (by kernel_rfl) (by kernel_rfl) (by kernel_rfl) (fun _ _ _ h => h) ((wanted_of hF rfl rfl rfl rfl).trans rfl) hS (fun w hS => x_loadn ty30 (hF.tmp 101 rfl) rfl (hS 3499 _ rfl)) rfl ?_; clear hF; intro a hF
              refine r_take 9 hF rfl rfl rfl (by kernel_rfl) (by kernel_rfl) (by kernel_rfl) (fun _ _ _ h => h) ((wanted_of hF rfl rfl rfl rfl).trans rfl) hS (fun w hS => x_move (hF.tmp 6 rfl)) rfl ?_; clear hF; intro a hF
              refine r_take 10 hF rfl rfl rfl (by kernel_rfl) (by kernel_rfl) (by kernel_rfl) (fun _ _ _ h => h) ((wanted_of hF rfl rfl rfl rfl).trans rfl) hS (fun w hS => x_move (hF.tmp 9 rfl)) rfl ?_; clear hF; intro a hF
              refine r_take 11 hF rfl rfl rfl (by kernel_rfl) (by kernel_rfl) (by kernel_rfl) (fun _ _ _ h => h) ((wanted_of hF rfl rfl rfl rfl).trans rfl) hS (fun w hS => x_iaddr_A Try.underlying25 ty30 ((hH.rd 60 rfl)) (hF.tmp 103 rfl) (hF.tmp 104 rfl) (by omega) (by omega) _) rfl ?_; clear hF; intro a hF
              refine r_take 12 hF rfl rfl rfl (by kernel_rfl) (by kernel_rfl) (by kernel_rfl) (fun _ _ _ h => h) ((wanted_of hF rfl rfl rfl rfl).trans rfl) hS (fun w hS => x_loadn ty30 (hF.tmp 105 rfl) rfl (hS 1499 _ rfl)) rfl ?_; clear hF; intro a hF
              refine r_take 13 hF rfl rfl rfl (by kernel_rfl) (by kernel_rfl) (by kernel_rfl) (fun _ _ _ h => h) ((wanted_of hF rfl rfl rfl rfl).trans rfl) hS (fun w hS => tent_nes (x := (gtent (underL l pre) (k : Int))) (y := (gtent l (i : Int))) hbp.1 hbl.1 hbp.2 hbl.2 (hF.tmp 102 rfl) (hF.tmp 106 rfl)) rfl ?_; clear hF; intro a hF
              rw [decide_eq_true hkat.2] at hF
              refine r_take 14 hF rfl rfl rfl (by kernel_rfl) (by kernel_rfl) (by kernel_rfl) (fun _ _ _ h => h) rfl hS (fun w hS => x_pickF (hF.tmp 98 rfl) rfl (hF.tmp 107 rfl)) rfl ?_; clear hF; intro a hF
              refine r_end (by kernel_rfl) ?_; clear hS
              refine hK20 _ _ ?_
              refine wp_cond_false (hF.tmp 108 rfl) ?_
              refine wp_skip ?_
              refine hK19 _ _ ?_
              refine wp_region_lit ?_
              refine l_at hF rfl rfl rfl (x_move (hF.tmp 8 rfl)) ?_; clear hF; intro a hF
              refine l_at hF rfl rfl rfl (x_add (hF.tmp 109 rfl) rfl (show IntKind.i64.wrap _ = ((k + 1 : Nat) : Int) from by rw [w64 (by omega) (by omega)] <;> omega)) ?_; clear hF; intro a hF
              refine l_at hF rfl rfl rfl (x_assign (hF.tmp 110 rfl)) ?_; clear hF; intro a hF
              refine wpList_nil ?_
              exact hJ93 _ _ (k + 1) (by have h9 := under_t (l := l) (i := i) (pre := pre) (by omega) hjr13_0; omega) ((((((hF.bare.add hF 9 rfl).add hF 8 rfl).add hF 7 rfl).add hF 6 rfl).add hF 5 rfl).add hF 1 rfl) (hH.sub _ (sub_cons (sub_cons (sub_cons (sub_cons (sub_cons (sub_cons (sub_cons (sub_cons (sub_cons (sub_cons (sub_nil _) 2501 rfl) 2500 rfl) 2499 rfl) 1501 rfl) 1500 rfl) 1499 rfl) 61 rfl) 60 rfl) 100 rfl) 901 rfl))
            · have hk93_5 := hc93; try simp only [Bool.or_eq_true, Bool.and_eq_true, Bool.or_eq_false_iff, Bool.and_eq_false_iff, Bool.not_eq_true', Bool.not_eq_false', decide_eq_true_eq, decide_eq_false_iff_not, Bool.not_true, Bool.not_false] at hc93
              rw [hc93, eq_comm, decide_eq_false_iff_not] at hjr13_0
              refine wp_skip ?_
              exact hJ93 _ _ k (by have h9 := under_f (l := l) (i := i) (pre := pre) (by omega) hjr13_0; omega) ((((((hF.bare.add hF 9 rfl).add hF 8 rfl).add hF 7 rfl).add hF 6 rfl).add hF 5 rfl).add hF 1 rfl) (hH.sub _ (sub_cons (sub_cons (sub_cons (sub_cons (sub_cons (sub_cons (sub_cons (sub_cons (sub_cons (sub_cons (sub_nil _) 2501 rfl) 2500 rfl) 2499 rfl) 1501 rfl) 1500 rfl) 1499 rfl) 61 rfl) 60 rfl) 100 rfl) 901 rfl))
          refine wp_region_lit ?_
          refine l_at hF rfl rfl rfl (x_move (hF.tmp 6 rfl)) ?_; clear hF; intro a hF
          refine l_at hF rfl rfl rfl (x_move (hF.tmp 9 rfl)) ?_; clear hF; intro a hF
          refine l_at hF rfl rfl rfl (x_iaddr_A Try.underlying25 ty30 ((hH.rd 60 rfl)) (hF.tmp 73 rfl) (hF.tmp 74 rfl) (by omega) (by omega) _) ?_; clear hF; intro a hF
          refine l_at hF rfl rfl rfl (x_faddrA ((hH.rd 60 rfl)) (by omega) _ Try.underlying30 rfl ty9 (by decide) (hF.tmp 75 rfl) rfl) ?_; clear hF; intro a hF
          refine l_at hF rfl rfl rfl (x_load1 ty9 (hF.tmp 76 rfl) (hH.holds 1500 _ rfl)) ?_; clear hF; intro a hF
          refine l_at hF rfl rfl rfl (x_len_sn (xs := ((gtent l (i : Int)).1)) Try.underlying9 (hF.tmp 77 rfl)) ?_; clear hF; intro a hF
          refine l_at hF rfl rfl rfl (x_move (hF.tmp 1 rfl)) ?_; clear hF; intro a hF
          refine l_at hF rfl rfl rfl (x_len_sn (xs := pre) Try.underlying9 (hF.tmp 79 rfl)) ?_; clear hF; intro a hF
          refine l_at hF rfl rfl rfl (x_geq (hF.tmp 78 rfl) (hF.tmp 80 rfl)) ?_; clear hF; intro a hF
          refine l_at hF rfl rfl rfl (x_move (hF.tmp 81 rfl)) ?_; clear hF; intro a hF
          refine split_bool hF 82 rfl (fun hb82 => ?_) (fun hb82 => ?_)
          · have hc82 := hb82; try simp only [Bool.or_eq_true, Bool.and_eq_true, Bool.or_eq_false_iff, Bool.and_eq_false_iff, Bool.not_eq_true', Bool.not_eq_false', decide_eq_true_eq, decide_eq_false_iff_not, Bool.not_true, Bool.not_false] at hc82
            refine l_atg hF ((wanted_of hF rfl rfl rfl rfl).trans (by rw [hb82]; rfl)) rfl rfl (x_move (hF.tmp 6 rfl)) ?_; clear hF; intro a hF
            refine l_atg hF ((wanted_of hF rfl rfl rfl rfl).trans (by rw [hb82]; rfl)) rfl rfl (x_move (hF.tmp 9 rfl)) ?_; clear hF; intro a hF
            refine l_atg hF ((wanted_of hF rfl rfl rfl rfl).trans (by rw [hb82]; rfl)) rfl rfl (x_iaddr_A Try.underlying25 ty30 ((hH.rd 60 rfl)) (hF.tmp 83 rfl) (hF.tmp 84 rfl) (by omega) (by omega) _) ?_; clear hF; intro a hF
            refine l_atg hF ((wanted_of hF rfl rfl rfl rfl).trans (by rw [hb82]; rfl)) rfl rfl (x_faddrA ((hH.rd 60 rfl)) (by omega) _ Try.underlying30 rfl ty9 (by decide) (hF.tmp 85 rfl) rfl) ?_; clear hF; intro a hF
            refine l_atg hF ((wanted_of hF rfl rfl rfl rfl).trans (by rw [hb82]; rfl)) rfl rfl (x_load1 ty9 (hF.tmp 86 rfl) (hH.holds 1500 _ rfl)) ?_; clear hF; intro a hF
            refine l_atg hF ((wanted_of hF rfl rfl rfl rfl).trans (by rw [hb82]; rfl)) rfl rfl (x_move (hF.tmp 1 rfl)) ?_; clear hF; intro a hF
            refine l_atg hF ((wanted_of hF rfl rfl rfl rfl).trans (by rw [hb82]; rfl)) rfl rfl (x_len_sn (xs := pre) Try.underlying9 (hF.tmp 88 rfl)) ?_; clear hF; intro a hF
            refine l_atg hF ((wanted_of hF rfl rfl rfl rfl).trans (by rw [hb82]; rfl)) rfl rfl (x_sliceS (xs := ((gtent l (i : Int)).1)) Try.underlying9 (hF.tmp 87 rfl) (hF.tmp 89 rfl) (by omega) (by omega)) ?_; clear hF; intro a hF
            refine l_atg hF ((wanted_of hF rfl rfl rfl rfl).trans (by rw [hb82]; rfl)) rfl rfl (x_move (hF.tmp 1 rfl)) ?_; clear hF; intro a hF
            refine l_atg hF ((wanted_of hF rfl rfl rfl rfl).trans (by rw [hb82]; rfl)) rfl rfl (x_eqn (xs := (((gtent l (i : Int)).1).take (pre.length : Int).toNat)) (ys := pre) (hF.tmp 90 rfl) (hF.tmp 91 rfl) (((TrieA.byte hX (gtent_mem (xs := l) (j := i) (by omega))).1.1).take _) hkb) ?_; clear hF; intro a hF
            refine l_at hF rfl rfl rfl (x_pickT (hF.tmp 82 rfl) hb82 (hF.tmp 92 rfl)) ?_; clear hF; intro a hF
            refine wpList_nil ?_
            exact hJr13 _ _ (decide ((((gtent l (i : Int)).1).take (pre.length : Int).toNat) = pre)) (by first | exact dec_pre | exact pre_short (by omega)) (((((((hF.bare.add hF 93 rfl).add hF 9 rfl).add hF 8 rfl).add hF 7 rfl).add hF 6 rfl).add hF 5 rfl).add hF 1 rfl) (hH.sub _ (sub_cons (sub_cons (sub_cons (sub_cons (sub_cons (sub_cons (sub_cons (sub_cons (sub_cons (sub_cons (sub_nil _) 2501 rfl) 2500 rfl) 2499 rfl) 1501 rfl) 1500 rfl) 1499 rfl) 61 rfl) 60 rfl) 100 rfl) 901 rfl))
          · have hc82 := hb82; try simp only [Bool.or_eq_true, Bool.and_eq_true, Bool.or_eq_false_iff, Bool.and_eq_false_iff, Bool.not_eq_true', Bool.not_eq_false', decide_eq_true_eq, decide_eq_false_iff_not, Bool.not_true, Bool.not_false] at hc82
            refine l_offg hF ((wanted_of hF rfl rfl rfl rfl).trans (by rw [hb82]; rfl)) rfl rfl ?_; clear hF; intro a hF
            refine l_offg hF ((wanted_of hF rfl rfl rfl rfl).trans (by rw [hb82]; rfl)) rfl rfl ?_; clear hF; intro a hF
            refine l_offg hF ((wanted_of hF rfl rfl rfl rfl).trans (by rw [hb82]; rfl)) rfl rfl ?_; clear hF; intro a hF
            refine l_offg hF ((wanted_of hF rfl rfl rfl rfl).trans (by rw [hb82]; rfl)) rfl rfl ?_; clear hF; intro a hF
            refine l_offg hF ((wanted_of hF rfl rfl rfl rfl).trans (by rw [hb82]; rfl)) rfl rfl ?_; clear hF; intro a hF
            refine l_offg hF ((wanted_of hF rfl rfl rfl rfl).trans (by rw [hb82]; rfl)) rfl rfl ?_; clear hF; intro a hF
            refine l_offg hF ((wanted_of hF rfl rfl rfl rfl).trans (by rw [hb82]; rfl)) rfl rfl ?_; clear hF; intro a hF
            refine l_offg hF ((wanted_of hF rfl rfl rfl rfl).trans (by rw [hb82]; rfl)) rfl rfl ?_; clear hF; intro a hF
            refine l_offg hF ((wanted_of hF rfl rfl rfl rfl).trans (by rw [hb82]; rfl)) rfl rfl ?_; clear hF; intro a hF
            refine l_offg hF ((wanted_of hF rfl rfl rfl rfl).trans (by rw [hb82]; rfl)) rfl rfl ?_; clear hF; intro a hF
            refine l_at hF rfl rfl rfl (x_pickF (hF.tmp 82 rfl) hb82 rfl) ?_; clear hF; intro a hF
            refine wpList_nil ?_
            exact hJr13 _ _ false (by first | exact dec_pre | exact pre_short (by omega)) (((((((hF.bare.add hF 93 rfl).add hF 9 rfl).add hF 8 rfl).add hF 7 rfl).add hF 6 rfl).add hF 5 rfl).add hF 1 rfl) (hH.sub _ (sub_cons (sub_cons (sub_cons (sub_cons (sub_cons (sub_cons (sub_cons (sub_cons (sub_cons (sub_cons (sub_nil _) 2501 rfl) 2500 rfl) 2499 rfl) 1501 rfl) 1500 rfl) 1499 rfl) 61 rfl) 60 rfl) 100 rfl) 901 rfl))
        refine r_start [(901, .rd_ TactE A script c (fun k => k < w0.heap.size)), (60, .rd_ TentE Ar60 l cr60 (fun kb => (Value.slice Ar60 l.length cr60).ownBlock = some kb)), (61, .rd_ TentE Ar61 (underL l pre) cr61 (fun kb => (Value.slice Ar61 (underL l pre).length cr61).ownBlock = some kb)), (1499, .cels (adr Ar60 (Int.toNat (i : Int) * 2)) #[.string (strOfNums (gtent l (i : Int)).1), .string (strOfNums (gtent l (i : Int)).2)]), (1500, .cel (adr Ar60 (Int.toNat (i : Int) * 2)) (.string (strOfNums (gtent l (i : Int)).1))), (1501, .cel (adr Ar60 (Int.toNat (i : Int) * 2 + 1)) (.string (strOfNums (gtent l (i : Int)).2))), (2499, .cels (adr Ar60 (Int.toNat ((i - 1 : Nat) : Int) * 2)) #[.string (strOfNums (gtent l ((i - 1 : Nat) : Int)).1), .string (strOfNums (gtent l ((i - 1 : Nat) : Int)).2)]), (2500, .cel (adr Ar60 (Int.toNat ((i - 1 : Nat) : Int) * 2)) (.string (strOfNums (gtent l ((i - 1 : Nat) : Int)).1))), (2501, .cel (adr Ar60 (Int.toNat ((i - 1 : Nat) : Int) * 2 + 1)) (.string (strOfNums (gtent l ((i - 1 : Nat) : Int)).2)))] (by kernel_rfl) hH fun hH => ?_
        have hS : SL [(901, .rd_ TactE A script c (fun k => k < w0.heap.size)), (60, .rd_ TentE Ar60 l cr60 (fun kb => (Value.slice Ar60 l.length cr60).ownBlock = some kb)), (61, .rd_ TentE Ar61 (underL l pre) cr61 (fun kb => (Value.slice Ar61 (underL l pre).length cr61).ownBlock = some kb)), (1499, .cels (adr Ar60 (Int.toNat (i : Int) * 2)) #[.string (strOfNums (gtent l (i : Int)).1), .string (strOfNums (gtent l (i : Int)).2)]), (1500, .cel (adr Ar60 (Int.toNat (i : Int) * 2)) (.string (strOfNums (gtent l (i : Int)).1))), (1501, .cel (adr Ar60 (Int.toNat (i : Int) * 2 + 1)) (.string (strOfNums (gtent l (i : Int)).2))), (2499, .cels (adr Ar60 (Int.toNat ((i - 1 : Nat) : Int) * 2)) #[.string (strOfNums (gtent l ((i - 1 : Nat) : Int)).1), .string (strOfNums (gtent l ((i - 1 : Nat) : Int)).2)]), (2500, .cel (adr Ar60 (Int.toNat ((i - 1 : Nat) : Int) * 2)) (.string (strOfNums (gtent l ((i - 1 : Nat) : Int)).1))), (2501, .cel (adr Ar60 (Int.toNat ((i - 1 : Nat) : Int) * 2 + 1)) (.string (strOfNums (gtent l ((i - 1 : Nat) : Int)).2)))] _ := SL.of hH (sub_cons (sub_cons (sub_cons (sub_cons (sub_cons (sub_cons (sub_cons (sub_cons (sub_cons (sub_nil _) 2501 rfl) 2500 rfl) 2499 rfl) 1501 rfl) 1500 rfl) 1499 rfl) 61 rfl) 60 rfl) 901 rfl)
        refine r_take 0 hF rfl rfl rfl (by kernel_rfl) (by kernel_rfl) (by kernel_rfl) (fun _ _ _ h => h) rfl hS (fun w hS => x_move (hF.tmp 11 rfl)) rfl ?_; clear hF; intro a hF
        refine r_take 1 hF rfl rfl rfl (by kernel_rfl) (by kernel_rfl) (by kernel_rfl) (fun _ _ _ h => h) rfl hS (fun w hS => x_not (hF.tmp 44 rfl)) rfl ?_; clear hF; intro a hF
        refine r_take 2 hF rfl rfl rfl (by kernel_rfl) (by kernel_rfl) (by kernel_rfl) (fun _ _ _ h => h) rfl hS (fun w hS => x_move (hF.tmp 45 rfl)) rfl ?_; clear hF; intro a hF
        refine r_take 3 hF rfl rfl rfl (by kernel_rfl) (by kernel_rfl) (by kernel_rfl) (fun _ _ _ h => h) ((wanted_of hF rfl rfl rfl rfl).trans rfl) hS (fun w hS => x_move (hF.tmp 10 rfl)) rfl ?_; clear hF; intro a hF
        refine r_take 4 hF rfl rfl rfl (by kernel_rfl) (by kernel_rfl) (by kernel_rfl) (fun _ _ _ h => h) ((wanted_of hF rfl rfl rfl rfl).trans rfl) hS (fun w hS => x_move (hF.tmp 6 rfl)) rfl ?_; clear hF; intro a hF
        refine r_take 5 hF rfl rfl rfl (by kernel_rfl) (by kernel_rfl) (by kernel_rfl) (fun _ _ _ h => h) ((wanted_of hF rfl rfl rfl rfl).trans rfl) hS (fun w hS => x_move (hF.tmp 9 rfl)) rfl ?_; clear hF; intro a hF
        refine r_take 6 hF rfl rfl rfl (by kernel_rfl) (by kernel_rfl) (by kernel_rfl) (fun _ _ _ h => h) ((wanted_of hF rfl rfl rfl rfl).trans rfl) hS (fun w hS => x_iaddr_A Try.underlying25 ty30 ((hH.rd 60 rfl)) (hF.tmp 48 rfl) (hF.tmp 49 rfl) (by omega) (by omega) _) rfl ?_; clear hF; intro a hF
        refine r_take 7 hF rfl rfl rfl (by kernel_rfl) (by kernel_rfl) (by kernel_rfl) (fun _ _ _ h => h) ((wanted_of hF rfl rfl rfl rfl).trans rfl) hS (fun w hS => x_faddrA ((SL.rd hS 60 rfl)) (by omega) _ Try.underlying30 rfl ty9 (by decide) (hF.tmp 50 rfl) rfl) rfl ?_; clear hF; intro a hF
        refine r_take 8 hF rfl rfl rfl (by kernel_rfl) (by kernel_rfl) (by kernel_rfl) (fun _ _ _ h => h) ((wanted_of hF rfl rfl rfl rfl).trans rfl) hS (fun w hS => x_load1 ty9 (hF.tmp 51 rfl) (hS 1501 _ rfl)) rfl ?_; clear hF; intro a hF
        refine r_take 9 hF rfl rfl rfl (by kernel_rfl) (by kernel_rfl) (by kernel_rfl) (fun _ _ _ h => h) ((wanted_of hF rfl rfl rfl rfl).trans rfl) hS (fun w hS => x_nen (xs := ((gtent l (i : Int)).2)) (ys := ((gtent l (i : Int)).2)) (hF.tmp 47 rfl) (hF.tmp 52 rfl) ((TrieA.byte hX (gtent_mem (xs := l) (j := i) (by omega))).2.1) ((TrieA.byte hX (gtent_mem (xs := l) (j := i) (by omega))).2.1)) rfl ?_; clear hF; intro a hF
        rw [decide_eq_true rfl] at hF
        refine r_take 10 hF rfl rfl rfl (by kernel_rfl) (by kernel_rfl) (by kernel_rfl) (fun _ _ _ h => h) rfl hS (fun w hS => x_pickF (hF.tmp 46 rfl) rfl (hF.tmp 53 rfl)) rfl ?_; clear hF; intro a hF
        refine r_take 11 hF rfl rfl rfl (by kernel_rfl) (by kernel_rfl) (by kernel_rfl) (fun _ _ _ h => h) rfl hS (fun w hS => x_move (hF.tmp 54 rfl)) rfl ?_; clear hF; intro a hF
        refine r_take 12 hF rfl rfl rfl (by kernel_rfl) (by kernel_rfl) (by kernel_rfl) (fun _ _ _ h => h) ((wanted_of hF rfl rfl rfl rfl).trans rfl) hS (fun w hS => x_move (hF.tmp 9 rfl)) rfl ?_; clear hF; intro a hF
        refine r_take 13 hF rfl rfl rfl (by kernel_rfl) (by kernel_rfl) (by kernel_rfl) (fun _ _ _ h => h) ((wanted_of hF rfl rfl rfl rfl).trans rfl) hS (fun w hS => x_gtr (hF.tmp 56 rfl) rfl) rfl ?_; clear hF; intro a hF
        refine r_take 14 hF rfl rfl rfl (by kernel_rfl) (by kernel_rfl) (by kernel_rfl) (fun _ _ _ h => h) ((wanted_of hF rfl rfl rfl rfl).trans rfl) hS (fun w hS => x_move (hF.tmp 57 rfl)) rfl ?_; clear hF; intro a hF
        refine split_bool hF 58 rfl (fun hb58 => ?_) (fun hb58 => ?_)
        · have hc58 := hb58; try simp only [Bool.or_eq_true, Bool.and_eq_true, Bool.or_eq_false_iff, Bool.and_eq_false_iff, Bool.not_eq_true', Bool.not_eq_false', decide_eq_true_eq, decide_eq_false_iff_not, Bool.not_true, Bool.not_false] at hc58
          refine r_take 15 hF rfl rfl rfl (by kernel_rfl) (by kernel_rfl) (by kernel_rfl) (fun _ _ _ h => h) ((wanted_of hF rfl rfl rfl rfl).trans (by rw [hb58]; rfl)) hS (fun w hS => x_move (hF.tmp 6 rfl)) rfl ?_; clear hF; intro a hF
          refine r_take 16 hF rfl rfl rfl (by kernel_rfl) (by kernel_rfl) (by kernel_rfl) (fun _ _ _ h => h) ((wanted_of hF rfl rfl rfl rfl).trans (by rw [hb58]; rfl)) hS (fun w hS => x_move (hF.tmp 9 rfl)) rfl ?_; clear hF; intro a hF
          refine r_take 17 hF rfl rfl rfl (by kernel_rfl) (by kernel_rfl) (by kernel_rfl) (fun _ _ _ h => h) ((wanted_of hF rfl rfl rfl rfl).trans (by rw [hb58]; rfl)) hS (fun w hS => x_sub (hF.tmp 60 rfl) rfl (show IntKind.i64.wrap _ = ((i - 1 : Nat) : Int) from by rw [w64 (by omega) (by omega)] <;> omega)) rfl ?_; clear hF; intro a hF
          refine r_take 18 hF rfl rfl rfl (by kernel_rfl) (by kernel_rfl) (by kernel_rfl) (fun _ _ _ h => h) ((wanted_of hF rfl rfl rfl rfl).trans (by rw [hb58]; rfl)) hS (fun w hS => x_iaddr_A Try.underlying25 ty30 ((hH.rd 60 rfl)) (hF.tmp 59 rfl) (hF.tmp 61 rfl) (by omega) (by omega) _) rfl ?_; clear hF; intro a hF
          refine r_take 19 hF rfl rfl rfl (by kernel_rfl) (by kernel_rfl) (by kernel_rfl) (fun _ _ _ h => h) ((wanted_of hF rfl rfl rfl rfl).trans (by rw [hb58]; rfl)) hS (fun w hS => x_faddrA ((SL.rd hS 60 rfl)) (by omega) _ Try.underlying30 rfl ty9 (by decide) (hF.tmp 62 rfl) rfl) rfl ?_; clear hF; intro a hF
          refine r_take 20 hF rfl rfl rfl (by kernel_rfl) (by kernel_rfl) (by kernel_rfl) (fun _ _ _ h => h) ((wanted_of hF rfl rfl rfl rfl).trans (by rw [hb58]; rfl)) hS (fun w hS => x_load1 ty9 (hF.tmp 63 rfl) (hS 2500 _ rfl)) rfl ?_; clear hF; intro a hF
          refine r_take 21 hF rfl rfl rfl (by kernel_rfl) (by kernel_rfl) (by kernel_rfl) (fun _ _ _ h => h) ((wanted_of hF rfl rfl rfl rfl).trans (by rw [hb58]; rfl)) hS (fun w hS => x_move (hF.tmp 6 rfl)) rfl ?_; clear hF; intro a hF
          refine r_take 22 hF rfl rfl rfl (by kernel_rfl) (by kernel_rfl) (by kernel_rfl) (fun _ _ _ h => h) ((wanted_of hF rfl rfl rfl rfl).trans (by rw [hb58]; rfl)) hS (fun w hS => x_move (hF.tmp 9 rfl)) rfl ?_; clear hF; intro a hF
          refine r_take 23 hF rfl rfl rfl (by kernel_rfl) (by kernel_rfl) (by kernel_rfl) (fun _ _ _ h => h) ((wanted_of hF rfl rfl rfl rfl).trans (by rw [hb58]; rfl)) hS (fun w hS => x_iaddr_A Try.underlying25 ty30 ((hH.rd 60 rfl)) (hF.tmp 65 rfl) (hF.tmp 66 rfl) (by omega) (by omega) _) rfl ?_; clear hF; intro a hF
          refine r_take 24 hF rfl rfl rfl (by kernel_rfl) (by kernel_rfl) (by kernel_rfl) (fun _ _ _ h => h) ((wanted_of hF rfl rfl rfl rfl).trans (by rw [hb58]; rfl)) hS (fun w hS => x_faddrA ((SL.rd hS 60 rfl)) (by omega) _ Try.underlying30 rfl ty9 (by decide) (hF.tmp 67 rfl) rfl) rfl ?_; clear hF; intro a hF
          refine r_take 25 hF rfl rfl rfl (by kernel_rfl) (by kernel_rfl) (by kernel_rfl) (fun _ _ _ h => h) ((wanted_of hF rfl rfl rfl rfl).trans (by rw [hb58]; rfl)) hS (fun w hS => x_load1 ty9 (hF.tmp 68 rfl) (hS 1500 _ rfl)) rfl ?_; clear hF; intro a hF
          refine r_take 26 hF rfl rfl rfl (by kernel_rfl) (by kernel_rfl) (by kernel_rfl) (fun _ _ _ h => h) ((wanted_of hF rfl rfl rfl rfl).trans (by rw [hb58]; rfl)) hS (fun w hS => x_gesn (p := ((gtent l ((i - 1 : Nat) : Int)).1)) (q := ((gtent l (i : Int)).1)) ((TrieA.byte hX (gtent_mem (xs := l) (j := i - 1) (by omega))).1.1) ((TrieA.byte hX (gtent_mem (xs := l) (j := i) (by omega))).1.1) (hF.tmp 64 rfl) (hF.tmp 69 rfl)) rfl ?_; clear hF; intro a hF
          rw [lt_tent (TrieA.sorted hX) (by omega) (by omega)] at hF
          refine r_take 27 hF rfl rfl rfl (by kernel_rfl) (by kernel_rfl) (by kernel_rfl) (fun _ _ _ h => h) ((wanted_of hF rfl rfl rfl rfl).trans rfl) hS (fun w hS => x_pickT (hF.tmp 58 rfl) hb58 (hF.tmp 70 rfl)) rfl ?_; clear hF; intro a hF
          refine r_take 28 hF rfl rfl rfl (by kernel_rfl) (by kernel_rfl) (by kernel_rfl) (fun _ _ _ h => h) rfl hS (fun w hS => x_pickF (hF.tmp 55 rfl) rfl (hF.tmp 71 rfl)) rfl ?_; clear hF; intro a hF
          refine r_end (by kernel_rfl) ?_; clear hS
          exact hJr11 _ _  (((((((hF.bare.add hF 72 rfl).add hF 9 rfl).add hF 8 rfl).add hF 7 rfl).add hF 6 rfl).add hF 5 rfl).add hF 1 rfl) (hH.sub _ (sub_cons (sub_cons (sub_cons (sub_cons (sub_cons (sub_cons (sub_cons (sub_cons (sub_cons (sub_cons (sub_nil _) 2501 rfl) 2500 rfl) 2499 rfl) 1501 rfl) 1500 rfl) 1499 rfl) 61 rfl) 60 rfl) 100 rfl) 901 rfl))
        · have hc58 := hb58; try simp only [Bool.or_eq_true, Bool.and_eq_true, Bool.or_eq_false_iff, Bool.and_eq_false_iff, Bool.not_eq_true', Bool.not_eq_false', decide_eq_true_eq, decide_eq_false_iff_not, Bool.not_true, Bool.not_false] at hc58
          refine r_off 15 hF rfl rfl rfl (by kernel_rfl) (by kernel_rfl) (by kernel_rfl) (fun _ _ _ h => h) ((wanted_of hF rfl rfl rfl rfl).trans (by rw [hb58]; rfl)) hS rfl ?_; clear hF; intro a hF
          refine r_off 16 hF rfl rfl rfl (by kernel_rfl) (by kernel_rfl) (by kernel_rfl) (fun _ _ _ h => h) ((wanted_of hF rfl rfl rfl rfl).trans (by rw [hb58]; rfl)) hS rfl ?_; clear hF; intro a hF
          refine r_off 17 hF rfl rfl rfl (by kernel_rfl) (by kernel_rfl) (by kernel_rfl) (fun _ _ _ h => h) ((wanted_of hF rfl rfl rfl rfl).trans (by rw [hb58]; rfl)) hS rfl ?_; clear hF; intro a hF
          refine r_off 18 hF rfl rfl rfl (by kernel_rfl) (by kernel_rfl) (by kernel_rfl) (fun _ _ _ h => h) ((wanted_of hF rfl rfl rfl rfl).trans (by rw [hb58]; rfl)) hS rfl ?_; clear hF; intro a hF
          refine r_off 19 hF rfl rfl rfl (by kernel_rfl) (by kernel_rfl) (by kernel_rfl) (fun _ _ _ h => h) ((wanted_of hF rfl rfl rfl rfl).trans (by rw [hb58]; rfl)) hS rfl ?_; clear hF; intro a hF
          refine r_off 20 hF rfl rfl rfl (by kernel_rfl) (by kernel_rfl) (by kernel_rfl) (fun _ _ _ h => h) ((wanted_of hF rfl rfl rfl rfl).trans (by rw [hb58]; rfl)) hS rfl ?_; clear hF; intro a hF
          refine r_off 21 hF rfl rfl rfl (by kernel_rfl) (by kernel_rfl) (by kernel_rfl) (fun _ _ _ h => h) ((wanted_of hF rfl rfl rfl rfl).trans (by rw [hb58]; rfl)) hS rfl ?_; clear hF; intro a hF
          refine r_off 22 hF rfl rfl rfl (by kernel_rfl) (by kernel_rfl) (by kernel_rfl) (fun _ _ _ h => h) ((wanted_of hF rfl rfl rfl rfl).trans (by rw [hb58]; rfl)) hS rfl ?_; clear hF; intro a hF
          refine r_off 23 hF rfl rfl rfl (by kernel_rfl) (by kernel_rfl) (by kernel_rfl) (fun _ _ _ h => h) ((wanted_of hF rfl rfl rfl rfl).trans (by rw [hb58]; rfl)) hS rfl ?_; clear hF; intro a hF
          refine r_off 24 hF rfl rfl rfl (by kernel_rfl) (by kernel_rfl) (by kernel_rfl) (fun _ _ _ h => h) ((wanted_of hF rfl rfl rfl rfl).trans (by rw [hb58]; rfl)) hS rfl ?_; clear hF; intro a hF
          refine r_off 25 hF rfl rfl rfl (by kernel_rfl) (by kernel_rfl) (by kernel_rfl) (fun _ _ _ h => h) ((wanted_of hF rfl rfl rfl rfl).trans (by rw [hb58]; rfl)) hS rfl ?_; clear hF; intro a hF
          refine r_off 26 hF rfl rfl rfl (by kernel_rfl) (by kernel_rfl) (by kernel_rfl) (fun _ _ _ h => h) ((wanted_of hF rfl rfl rfl rfl).trans (by rw [hb58]; rfl)) hS rfl ?_; clear hF; intro a hF
          refine r_take 27 hF rfl rfl rfl (by kernel_rfl) (by kernel_rfl) (by kernel_rfl) (fun _ _ _ h => h) ((wanted_of hF rfl rfl rfl rfl).trans rfl) hS (fun w hS => x_pickF (hF.tmp 58 rfl) hb58 rfl) rfl ?_; clear hF; intro a hF
          refine r_take 28 hF rfl rfl rfl (by kernel_rfl) (by kernel_rfl) (by kernel_rfl) (fun _ _ _ h => h) rfl hS (fun w hS => x_pickF (hF.tmp 55 rfl) rfl (hF.tmp 71 rfl)) rfl ?_; clear hF; intro a hF
          refine r_end (by kernel_rfl) ?_; clear hS
          exact hJr11 _ _  (((((((hF.bare.add hF 72 rfl).add hF 9 rfl).add hF 8 rfl).add hF 7 rfl).add hF 6 rfl).add hF 5 rfl).add hF 1 rfl) (hH.sub _ (sub_cons (sub_cons (sub_cons (sub_cons (sub_cons (sub_cons (sub_cons (sub_cons (sub_cons (sub_cons (sub_nil _) 2501 rfl) 2500 rfl) 2499 rfl) 1501 rfl) 1500 rfl) 1499 rfl) 61 rfl) 60 rfl) 100 rfl) 901 rfl))
      · have hk31_6 := hc31; try simp only [Bool.or_eq_true, Bool.and_eq_true, Bool.or_eq_false_iff, Bool.and_eq_false_iff, Bool.not_eq_true', Bool.not_eq_false', decide_eq_true_eq, decide_eq_false_iff_not, Bool.not_true, Bool.not_false] at hc31
        refine wp_exit ?_
        refine hK9 _ _ ?_
        refine wp_seq_k fun khK21 hK21 => ?_
        refine wp_region_lit ?_
        refine wpList_plain rfl fun K hK => ?_
        refine w_call hF (x_enter Try.func12 (by kernel_rfl) rfl (by simp only [List.map_toArray, List.map_cons, List.map_nil] <;> rfl)) (talive_calls _) rfl rfl ?_
        rintro _ w ⟨rfl, hm_⟩; refine ⟨_, rfl, ?_⟩; clear hF; intro a hF; have hH := hH.same hm_
        refine hK _ _ ?_; clear hK K
        refine l_at hF rfl rfl rfl (x_move (hF.tmp 111 rfl)) ?_; clear hF; intro a hF
        refine l_atg hF ((wanted_of hF rfl rfl rfl rfl).trans rfl) rfl rfl (x_move (hF.tmp 6 rfl)) ?_; clear hF; intro a hF
        refine l_atg hF ((wanted_of hF rfl rfl rfl rfl).trans rfl) rfl rfl (x_len_slice Try.underlying25 (hF.tmp 113 rfl)) ?_; clear hF; intro a hF
        refine l_atg hF ((wanted_of hF rfl rfl rfl rfl).trans rfl) rfl rfl (x_move (hF.tmp 5 rfl)) ?_; clear hF; intro a hF
        refine wpList_on ((wanted_of hF rfl rfl rfl rfl).trans rfl) fun K hK => ?_
        refine w_call hF (x_enter Try.func13 (by kernel_rfl) rfl (by simp only [List.map_toArray, List.map_cons, List.map_nil, hF.tmp 115 rfl] <;> rfl)) (len_calls _ hX (hH.okX 100 rfl)) rfl rfl ?_
        rintro _ w ⟨rfl, hm_⟩; refine ⟨_, rfl, ?_⟩; clear hF; intro a hF; have hH := hH.same hm_
        refine hK _ _ ?_; clear hK K
        refine l_atg hF ((wanted_of hF rfl rfl rfl rfl).trans rfl) rfl rfl (x_eql (hF.tmp 114 rfl) (hF.tmp 116 rfl)) ?_; clear hF; intro a hF
        rw [decide_eq_true rfl] at hF
        refine l_at hF rfl rfl rfl (x_pickT (hF.tmp 112 rfl) rfl (hF.tmp 117 rfl)) ?_; clear hF; intro a hF
        refine l_at hF rfl rfl rfl (x_move (hF.tmp 118 rfl)) ?_; clear hF; intro a hF
        refine l_atg hF ((wanted_of hF rfl rfl rfl rfl).trans rfl) rfl rfl (x_move (hF.tmp 8 rfl)) ?_; clear hF; intro a hF
        refine l_atg hF ((wanted_of hF rfl rfl rfl rfl).trans rfl) rfl rfl (x_move (hF.tmp 7 rfl)) ?_; clear hF; intro a hF
        refine l_atg hF ((wanted_of hF rfl rfl rfl rfl).trans rfl) rfl rfl (x_len_slice Try.underlying25 (hF.tmp 121 rfl)) ?_; clear hF; intro a hF
        refine l_atg hF ((wanted_of hF rfl rfl rfl rfl).trans rfl) rfl rfl (x_eql (hF.tmp 120 rfl) (hF.tmp 122 rfl)) ?_; clear hF; intro a hF
        rw [decide_eq_true (show ((k : Nat) : Int) = ((underL l pre).length : Int) by rw [hq0_1, List.take_of_length_le (by omega)])] at hF
        refine l_at hF rfl rfl rfl (x_pickT (hF.tmp 119 rfl) rfl (hF.tmp 123 rfl)) ?_; clear hF; intro a hF
        refine l_at hF rfl rfl rfl (x_assign (hF.tmp 124 rfl)) ?_; clear hF; intro a hF
        refine wpList_nil ?_
        refine hK21 _ _ ?_
        refine wp_ret ?_
        try simp only [Exit.then, Exit.inBlock]
        exact fin_ret hF (res1 (v := .bool true) hF rfl rfl) ⟨rfl, hH.mods⟩

end Go.Proofs.Ytlcnoibjhmflnaa.Act
