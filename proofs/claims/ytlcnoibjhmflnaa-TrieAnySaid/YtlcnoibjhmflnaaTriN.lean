/- TrieAny. -/
import Derived.Test.YtlcnoibjhmflnaaTriR
set_option linter.unusedVariables false
set_option linter.unusedSimpArgs false
namespace Go.Proofs.Ytlcnoibjhmflnaa.Act
open Go.RowKit Go.Proofs.Ytlcnoibjhmflnaa.Sx Go.Sort Go.Proofs.Ytlcnoibjhmflnaa.Cod
set_option maxRecDepth 100000 in
set_option maxHeartbeats 1000000 in
theorem tAny_calls (w0 : World) {script : List TactD} {ok : Nat → Prop} {A : Option Addr} {c : Nat} (hr : Rd TactE w0 ok A script c) (hB : ∀ x ∈ script, TactB x) {others : List (List Int)} {ok2 : Nat → Prop} {A2 : Option Addr} {c2 : Nat} (hr2 : Rd Rep.sn w0 ok2 A2 others c2) (hoB : ∀ x ∈ others, Byte x ∧ x.length ≤ maxLen) : Calls Try.prog 4 #[.slice A script.length c, .slice A2 others.length c2] w0 fun e w' => e = .returned (.bool true) ∧ Mods (fun _ => False) w0 w' := by
  refine calls_of_wp Try.func4 rfl ?_
  have hF := Fr.enter #[.slice A script.length c, .slice A2 others.length c2] 167 (slotsOf [.slice A script.length c, .slice A2 others.length c2] 0) (Nat.le_of_ble_eq_true rfl) (fun i v h => by have h2 := (get_slotsOf _ 0 i v h).2; simpa only [List.getElem?_toArray, Nat.sub_zero] using h2)
  have hH := Hp.nil (fun _ => False) w0
  rw [Try.ntmps4]
  revert hF; generalize (⟨(#[.slice A script.length c, .slice A2 others.length c2] : Array Value) ++ Array.replicate (167 - (#[.slice A script.length c, .slice A2 others.length c2] : Array Value).size) undef, []⟩ : Act) = a; intro hF
  have hH := hH.arg 901 hr.all (fun _ h => ⟨h, fun h => h⟩)
  have hle901 := hr.le; unfold maxLen at hle901
  have hH := hH.arg 902 hr2.all (fun _ h => ⟨h, fun h => h⟩)
  have hle902 := hr2.le; unfold maxLen at hle902
  refine wp_seq_k fun khK1 hK1 => ?_
  refine wp_region_lit ?_
  refine l_at hF rfl rfl rfl (x_assign rfl) ?_; clear hF; intro a hF
  refine wpList_nil ?_
  refine hK1 _ _ ?_
  refine wp_seq_k fun khK2 hK2 => ?_
  refine wp_region_lit ?_
  refine l_at hF rfl rfl rfl (x_move (hF.tmp 0 rfl)) ?_; clear hF; intro a hF
  refine wpList_plain rfl fun K hK => ?_
  refine w_call hF (x_enter Try.func9 (by kernel_rfl) rfl (by simp only [List.map_toArray, List.map_cons, List.map_nil, hF.tmp 19 rfl] <;> rfl)) (built_calls _ ((hH.rd 901 rfl)) hB) rfl rfl ?_
  rintro _ w ⟨tb, X, l, rfl, hX, hl120, hm_, hxo_, hxn_, hxr_⟩; refine ⟨_, rfl, ?_⟩; clear hF; intro a hF; have hH := hH.newX 100 hm_ hxo_ hxn_ hxr_
  refine hK _ _ ?_; clear hK K
  refine l_at hF rfl rfl rfl (x_assign (hF.tmp 20 rfl)) ?_; clear hF; intro a hF
  refine wpList_nil ?_
  refine hK2 _ _ ?_
  refine wp_seq_k fun khK3 hK3 => ?_
  refine wp_region_lit ?_
  refine wpList_plain rfl fun K hK => ?_
  refine w_call hF (x_enter Try.func14 (by kernel_rfl) rfl (by simp only [List.map_toArray, List.map_cons, List.map_nil] <;> rfl)) (new_calls _) rfl rfl ?_
  rintro _ w ⟨ub, U0, rfl, hU0, hm_, hxo_, hxn_, hxr_⟩; refine ⟨_, rfl, ?_⟩; clear hF; intro a hF; have hH := hH.newX 200 hm_ hxo_ hxn_ (fun k hk => (hxr_ k hk).elim)
  refine hK _ _ ?_; clear hK K
  refine l_at hF rfl rfl rfl (x_assign (hF.tmp 21 rfl)) ?_; clear hF; intro a hF
  refine wpList_nil ?_
  refine hK3 _ _ ?_
  refine wp_seq_k fun khK4 hK4 => ?_
  refine wp_seq_k fun khK5 hK5 => ?_
  refine wp_region_lit ?_
  refine l_at hF rfl rfl rfl (x_move (hF.tmp 5 rfl)) ?_; clear hF; intro a hF
  refine l_at hF rfl rfl rfl (x_ptrnil Try.underlying23 (hF.tmp 22 rfl) rfl) ?_; clear hF; intro a hF
  refine l_at hF rfl rfl rfl (x_move (hF.tmp 23 rfl)) ?_; clear hF; intro a hF
  refine l_atg hF ((wanted_of hF rfl rfl rfl rfl).trans rfl) rfl rfl (x_move (hF.tmp 6 rfl)) ?_; clear hF; intro a hF
  refine l_atg hF ((wanted_of hF rfl rfl rfl rfl).trans rfl) rfl rfl (x_ptrnil Try.underlying23 (hF.tmp 25 rfl) rfl) ?_; clear hF; intro a hF
  refine l_at hF rfl rfl rfl (x_pickF (hF.tmp 24 rfl) rfl (hF.tmp 26 rfl)) ?_; clear hF; intro a hF
  refine l_at hF rfl rfl rfl (x_move (hF.tmp 27 rfl)) ?_; clear hF; intro a hF
  refine l_atg hF ((wanted_of hF rfl rfl rfl rfl).trans rfl) rfl rfl (x_move (hF.tmp 1 rfl)) ?_; clear hF; intro a hF
  refine l_atg hF ((wanted_of hF rfl rfl rfl rfl).trans rfl) rfl rfl (x_len_slice Try.underlying34 (hF.tmp 29 rfl)) ?_; clear hF; intro a hF
  refine l_atg hF ((wanted_of hF rfl rfl rfl rfl).trans rfl) rfl rfl (x_gtr (hF.tmp 30 rfl) rfl) ?_; clear hF; intro a hF
  refine l_at hF rfl rfl rfl (x_pickF (hF.tmp 28 rfl) rfl (hF.tmp 31 rfl)) ?_; clear hF; intro a hF
  refine wpList_nil ?_
  refine hK5 _ _ ?_
  refine wp_cond_split (hF.tmp 32 rfl) (fun hc32 => ?_) (fun hc32 => ?_)
  · have hk32_1 := hc32; try simp only [Bool.or_eq_true, Bool.and_eq_true, Bool.or_eq_false_iff, Bool.and_eq_false_iff, Bool.not_eq_true', Bool.not_eq_false', decide_eq_true_eq, decide_eq_false_iff_not, Bool.not_true, Bool.not_false] at hc32
    refine wp_seq_k fun khK6 hK6 => ?_
    refine wp_region_lit ?_
    refine l_at hF rfl rfl rfl (x_move (hF.tmp 5 rfl)) ?_; clear hF; intro a hF
    refine l_at hF rfl rfl rfl (x_ptrne Try.underlying23 (hF.tmp 33 rfl) rfl) ?_; clear hF; intro a hF
    refine l_at hF rfl rfl rfl (x_move (hF.tmp 34 rfl)) ?_; clear hF; intro a hF
    refine l_atg hF ((wanted_of hF rfl rfl rfl rfl).trans rfl) rfl rfl (x_move (hF.tmp 6 rfl)) ?_; clear hF; intro a hF
    refine l_atg hF ((wanted_of hF rfl rfl rfl rfl).trans rfl) rfl rfl (x_ptrne Try.underlying23 (hF.tmp 36 rfl) rfl) ?_; clear hF; intro a hF
    refine l_at hF rfl rfl rfl (x_pickT (hF.tmp 35 rfl) rfl (hF.tmp 37 rfl)) ?_; clear hF; intro a hF
    refine l_at hF rfl rfl rfl (x_assign (hF.tmp 38 rfl)) ?_; clear hF; intro a hF
    refine wpList_nil ?_
    refine hK6 _ _ ?_
    refine wp_ret ?_
    try simp only [Exit.then, Exit.inBlock]
    exact fin_ret hF (res1 (v := .bool true) hF rfl rfl) ⟨rfl, hH.mods⟩
  · have hk32_2 := hc32; try simp only [Bool.or_eq_true, Bool.and_eq_true, Bool.or_eq_false_iff, Bool.and_eq_false_iff, Bool.not_eq_true', Bool.not_eq_false', decide_eq_true_eq, decide_eq_false_iff_not, Bool.not_true, Bool.not_false] at hc32
    refine wp_skip ?_
    refine hK4 _ _ ?_
    refine wp_seq_k fun khK7 hK7 => ?_
    refine wp_region_lit ?_
    refine l_at hF rfl rfl rfl (x_move (hF.tmp 5 rfl)) ?_; clear hF; intro a hF
    refine wpList_plain rfl fun K hK => ?_
    refine w_call hF (x_enter Try.func10 (by kernel_rfl) rfl (by simp only [List.map_toArray, List.map_cons, List.map_nil, hF.tmp 39 rfl] <;> kernel_rfl)) (walk_calls (pre := ([] : List Int)) _ hX (hH.okX 100 rfl) (by unfold Byte; decide) (by decide) (most := 120) (by omega) (by omega) (by omega) (by unfold kmax; omega)) rfl rfl ?_
    rintro _ w ⟨vr60, rfl, hm_, hr_⟩; refine ⟨_, rfl, ?_⟩; clear hF; intro a hF; have hH := Hp.rowOut hH 60 hm_ hr_; obtain ⟨Ar60, cr60, rfl⟩ := (hH.row 60 rfl).form
    refine hK _ _ ?_; clear hK K
    rw [walkL_all hl120] at hF hH
    have hH := hH.freeze 60 rfl (fun kb => (Value.slice Ar60 l.length cr60).ownBlock = some kb) (fun kb => ⟨fun h => .inr h, fun h => h.resolve_left id⟩)
    refine l_at hF rfl rfl rfl (x_assign (hF.tmp 40 rfl)) ?_; clear hF; intro a hF
    refine wpList_nil ?_
    refine hK7 _ _ ?_
    refine wp_seq_k fun khK8 hK8 => ?_
    refine wp_seq_k fun khK9 hK9 => ?_
    refine wp_region_lit ?_
    refine l_at hF rfl rfl rfl (x_assign rfl) ?_; clear hF; intro a hF
    refine wpList_nil ?_
    refine hK9 _ _ ?_
    refine wp_block ?_
    refine wp_loop_ghost (fun n_ a w => ∃ i : Nat, ∃ Ua : Asn, ∃ ma : List Ent, n_ = others.length - i ∧ (i ≤ others.length) ∧ (TrieA 58 62 9 ub ma Ua) ∧ (ma.length ≤ i) ∧ (∀ e ∈ ma, InO others 0 e.1) ∧ Fr 167 a [(1, .slice A2 others.length c2), (5, .pointer (some ⟨tb, 0, none⟩)), (6, .pointer (some ⟨ub, 0, none⟩)), (7, .slice Ar60 l.length cr60), (8, .int .i64 (i : Int))] ∧ Hp (fun _ => False) w0 w [(901, .rd_ TactE A script c (fun k => k < w0.heap.size)), (902, .rd_ Rep.sn A2 others c2 (fun k => k < w0.heap.size)), (100, X), (200, Ua), (60, .rd_ TentE Ar60 l cr60 (fun kb => (Value.slice Ar60 l.length cr60).ownBlock = some kb))]) (others.length) ?_ ?_
    · exact ⟨0, U0, [], rfl, Nat.zero_le _, hU0, Nat.le_refl _, (fun e he => by cases he), (((((hF.bare.add hF 8 rfl).add hF 7 rfl).add hF 6 rfl).add hF 5 rfl).add hF 1 rfl), hH.sub _ (sub_cons (sub_cons (sub_cons (sub_cons (sub_cons (sub_nil _) 60 rfl) 200 rfl) 100 rfl) 902 rfl) 901 rfl)⟩
    · rintro _ a w ⟨i, Ua, ma, rfl, hq0_0, hq0_1, hq0_2, hq0_3, hF, hH⟩
      refine wp_seq_k fun khK10 hK10 => ?_
      refine wp_seq_k fun khK11 hK11 => ?_
      refine wp_region_lit ?_
      refine l_at hF rfl rfl rfl (x_move (hF.tmp 8 rfl)) ?_; clear hF; intro a hF
      refine l_at hF rfl rfl rfl (x_move (hF.tmp 1 rfl)) ?_; clear hF; intro a hF
      refine l_at hF rfl rfl rfl (x_len_slice Try.underlying34 (hF.tmp 42 rfl)) ?_; clear hF; intro a hF
      refine l_at hF rfl rfl rfl (x_lss (hF.tmp 41 rfl) (hF.tmp 43 rfl)) ?_; clear hF; intro a hF
      refine wpList_nil ?_
      refine hK11 _ _ ?_
      refine wp_cond_split (hF.tmp 44 rfl) (fun hc44 => ?_) (fun hc44 => ?_)
      · have hk44_3 := hc44; try simp only [Bool.or_eq_true, Bool.and_eq_true, Bool.or_eq_false_iff, Bool.and_eq_false_iff, Bool.not_eq_true', Bool.not_eq_false', decide_eq_true_eq, decide_eq_false_iff_not, Bool.not_true, Bool.not_false] at hc44
        refine wp_skip ?_
        refine hK10 _ _ ?_
        refine wp_seq_k fun khK12 hK12 => ?_
        refine wp_block ?_
        refine wp_seq_k fun khK13 hK13 => ?_
        refine wp_region_lit ?_
        refine l_at hF rfl rfl rfl (x_move (hF.tmp 1 rfl)) ?_; clear hF; intro a hF
        refine l_at hF rfl rfl rfl (x_move (hF.tmp 8 rfl)) ?_; clear hF; intro a hF
        refine l_at hF rfl rfl rfl (x_iaddr_A Try.underlying34 ty9 ((hH.rd 902 rfl)) (hF.tmp 47 rfl) (hF.tmp 48 rfl) (by omega) (by omega) _) ?_; clear hF; intro a hF
        refine l_at hF rfl rfl rfl (x_load1 ty9 (hF.tmp 49 rfl) (((hH.rd 902 rfl)).cellA (gsn_some (i := (i : Int)) (by omega) (by omega)))) ?_; clear hF; intro a hF
        refine l_at hF rfl rfl rfl (x_len_sn (xs := (gsn others (i : Int))) Try.underlying9 (hF.tmp 50 rfl)) ?_; clear hF; intro a hF
        refine l_at hF rfl rfl rfl (x_leq (hF.tmp 51 rfl) rfl) ?_; clear hF; intro a hF
        refine wpList_nil ?_
        refine hK13 _ _ ?_
        refine wp_norm_k fun khK14 hK14 => ?_
        have hJ52 : ∀ a w, ∀ U1 : Asn, ∀ m1 : List Ent, (TrieA 58 62 9 ub m1 U1) → (m1.length ≤ i + 1) → (∀ e ∈ m1, InO others 0 e.1) → Fr 167 a [(1, .slice A2 others.length c2), (5, .pointer (some ⟨tb, 0, none⟩)), (6, .pointer (some ⟨ub, 0, none⟩)), (7, .slice Ar60 l.length cr60), (8, .int .i64 (i : Int))] → Hp (fun _ => False) w0 w [(901, .rd_ TactE A script c (fun k => k < w0.heap.size)), (902, .rd_ Rep.sn A2 others c2 (fun k => k < w0.heap.size)), (100, X), (200, U1), (60, .rd_ TentE Ar60 l cr60 (fun kb => (Value.slice Ar60 l.length cr60).ownBlock = some kb))] → khK14 a w := by
          intro a w U1 m1 hj52_0 hj52_1 hj52_2 hF hH
          refine hK14 a w ?_
          refine hK12 _ _ ?_
          refine wp_region_lit ?_
          refine l_at hF rfl rfl rfl (x_move (hF.tmp 8 rfl)) ?_; clear hF; intro a hF
          refine l_at hF rfl rfl rfl (x_add (hF.tmp 45 rfl) rfl (show IntKind.i64.wrap _ = ((i + 1 : Nat) : Int) from by rw [w64 (by omega) (by omega)] <;> omega)) ?_; clear hF; intro a hF
          refine l_at hF rfl rfl rfl (x_assign (hF.tmp 46 rfl)) ?_; clear hF; intro a hF
          refine wpList_nil ?_
          exact ⟨_, by omega, ⟨i + 1, U1, m1, rfl, by omega, hj52_0, hj52_1, hj52_2, (((((hF.bare.add hF 8 rfl).add hF 7 rfl).add hF 6 rfl).add hF 5 rfl).add hF 1 rfl), hH.sub _ (sub_cons (sub_cons (sub_cons (sub_cons (sub_cons (sub_nil _) 60 rfl) 200 rfl) 100 rfl) 902 rfl) 901 rfl)⟩⟩
        refine wp_cond_split (hF.tmp 52 rfl) (fun hc52 => ?_) (fun hc52 => ?_)
        · have hk52_4 := hc52; try simp only [Bool.or_eq_true, Bool.and_eq_true, Bool.or_eq_false_iff, Bool.and_eq_false_iff, Bool.not_eq_true', Bool.not_eq_false', decide_eq_true_eq, decide_eq_false_iff_not, Bool.not_true, Bool.not_false] at hc52
          refine wp_region_lit ?_
          refine l_at hF rfl rfl rfl (x_move (hF.tmp 6 rfl)) ?_; clear hF; intro a hF
          refine l_at hF rfl rfl rfl (x_move (hF.tmp 1 rfl)) ?_; clear hF; intro a hF
          refine l_at hF rfl rfl rfl (x_move (hF.tmp 8 rfl)) ?_; clear hF; intro a hF
          refine l_at hF rfl rfl rfl (x_iaddr_A Try.underlying34 ty9 ((hH.rd 902 rfl)) (hF.tmp 54 rfl) (hF.tmp 55 rfl) (by omega) (by omega) _) ?_; clear hF; intro a hF
          refine l_at hF rfl rfl rfl (x_load1 ty9 (hF.tmp 56 rfl) (((hH.rd 902 rfl)).cellA (gsn_some (i := (i : Int)) (by omega) (by omega)))) ?_; clear hF; intro a hF
          refine wpList_plain rfl fun K hK => ?_
          refine w_call hF (x_enter Try.func15 (by kernel_rfl) rfl (by simp only [List.map_toArray, List.map_cons, List.map_nil, hF.tmp 53 rfl, hF.tmp 57 rfl] <;> kernel_rfl)) (put_calls (key := (gsn others (i : Int))) (v := ([] : List Int)) _ hq0_1 (hH.okX 200 rfl) (hoB _ (gsn_mem (xs := others) (j := i) (by omega))).1 (by omega) (by unfold Byte; decide) (by decide) (by omega)) rfl rfl ?_
          rintro _ w ⟨Y1, rfl, hY1, hg_⟩; refine ⟨_, rfl, ?_⟩; clear hF; intro a hF; have hH := hH.grew 200 rfl hg_ (fun k hk => hk.elim)
          refine hK _ _ ?_; clear hK K
          refine wpList_nil ?_
          exact hJ52 _ _ Y1 (putL ma (gsn others (i : Int)) ([] : List Int)) hY1 (put_le (TrieA.sorted hq0_1) hq0_2) (any_put0 hq0_3 (by omega) _) (((((hF.bare.add hF 8 rfl).add hF 7 rfl).add hF 6 rfl).add hF 5 rfl).add hF 1 rfl) (hH.sub _ (sub_cons (sub_cons (sub_cons (sub_cons (sub_cons (sub_nil _) 60 rfl) 200 rfl) 100 rfl) 902 rfl) 901 rfl))
        · have hk52_5 := hc52; try simp only [Bool.or_eq_true, Bool.and_eq_true, Bool.or_eq_false_iff, Bool.and_eq_false_iff, Bool.not_eq_true', Bool.not_eq_false', decide_eq_true_eq, decide_eq_false_iff_not, Bool.not_true, Bool.not_false] at hc52
          refine wp_skip ?_
          exact hJ52 _ _ Ua ma hq0_1 (by omega) hq0_3 (((((hF.bare.add hF 8 rfl).add hF 7 rfl).add hF 6 rfl).add hF 5 rfl).add hF 1 rfl) (hH.sub _ (sub_cons (sub_cons (sub_cons (sub_cons (sub_cons (sub_nil _) 60 rfl) 200 rfl) 100 rfl) 902 rfl) 901 rfl))
      · have hk44_6 := hc44; try simp only [Bool.or_eq_true, Bool.and_eq_true, Bool.or_eq_false_iff, Bool.and_eq_false_iff, Bool.not_eq_true', Bool.not_eq_false', decide_eq_true_eq, decide_eq_false_iff_not, Bool.not_true, Bool.not_false] at hc44
        refine wp_exit ?_
        refine hK8 _ _ ?_
        refine wp_seq_k fun khK15 hK15 => ?_
        refine wp_seq_k fun khK16 hK16 => ?_
        refine wp_region_lit ?_
        refine l_at hF rfl rfl rfl (x_move (hF.tmp 7 rfl)) ?_; clear hF; intro a hF
        refine l_at hF rfl rfl rfl (x_len_slice Try.underlying25 (hF.tmp 59 rfl)) ?_; clear hF; intro a hF
        refine l_at hF rfl rfl rfl (x_sub (hF.tmp 60 rfl) rfl (w64 (by omega) (by omega))) ?_; clear hF; intro a hF
        refine l_at hF rfl rfl rfl (x_assign (hF.tmp 61 rfl)) ?_; clear hF; intro a hF
        refine wpList_nil ?_
        refine hK16 _ _ ?_
        refine wp_block ?_
        refine wp_loop_ghost (fun n_ a w => ∃ n : Nat, ∃ Ub : Asn, ∃ mb : List Ent, n_ = 0 + n ∧ (n ≤ l.length) ∧ (TrieA 58 62 9 ub mb Ub) ∧ (mb.length ≤ 120 + (l.length - n)) ∧ (∀ e ∈ mb, e ∈ l ∨ InO others 0 e.1) ∧ (∀ j, n ≤ j → j < l.length → ge9 l j ∈ mb) ∧ Fr 167 a [(1, .slice A2 others.length c2), (5, .pointer (some ⟨tb, 0, none⟩)), (6, .pointer (some ⟨ub, 0, none⟩)), (7, .slice Ar60 l.length cr60), (9, .int .i64 ((n : Int) - 1))] ∧ Hp (fun _ => False) w0 w [(901, .rd_ TactE A script c (fun k => k < w0.heap.size)), (902, .rd_ Rep.sn A2 others c2 (fun k => k < w0.heap.size)), (100, X), (200, Ub), (60, .rd_ TentE Ar60 l cr60 (fun kb => (Value.slice Ar60 l.length cr60).ownBlock = some kb))]) (0 + l.length) ?_ ?_
        · exact ⟨l.length, Ua, ma, rfl, Nat.le_refl _, hq0_1, (by omega), (fun e he => .inr (hq0_3 e he)), (fun j h1 h2 => by omega), (((((hF.bare.add hF 9 rfl).add hF 7 rfl).add hF 6 rfl).add hF 5 rfl).add hF 1 rfl), hH.sub _ (sub_cons (sub_cons (sub_cons (sub_cons (sub_cons (sub_nil _) 60 rfl) 200 rfl) 100 rfl) 902 rfl) 901 rfl)⟩
        · rintro _ a w ⟨n, Ub, mb, rfl, hq2_0, hq2_1, hq2_2, hq2_3, hq2_4, hF, hH⟩
          refine wp_seq_k fun khK17 hK17 => ?_
          refine wp_seq_k fun khK18 hK18 => ?_
          refine wp_region_lit ?_
          refine l_at hF rfl rfl rfl (x_move (hF.tmp 9 rfl)) ?_; clear hF; intro a hF
          refine l_at hF rfl rfl rfl (x_geq (hF.tmp 62 rfl) rfl) ?_; clear hF; intro a hF
          refine wpList_nil ?_
          refine hK18 _ _ ?_
          refine wp_cond_split (hF.tmp 63 rfl) (fun hc63 => ?_) (fun hc63 => ?_)
          · have hk63_7 := hc63; try simp only [Bool.or_eq_true, Bool.and_eq_true, Bool.or_eq_false_iff, Bool.and_eq_false_iff, Bool.not_eq_true', Bool.not_eq_false', decide_eq_true_eq, decide_eq_false_iff_not, Bool.not_true, Bool.not_false] at hc63
            rw [show ((n : Int) - 1) = ((n - 1 : Nat) : Int) from by omega] at hF
            obtain ⟨hf1_0, hf1_1, hfw1⟩ := rd_tent ((hH.rd 60 rfl)) (gtent_some (xs := l) (i := ((n - 1 : Nat) : Int)) (by omega) (by omega))
            have hH := hH.subcels 60 rfl 1499 hfw1 (Rd.inok ((hH.rd 60 rfl)) (by omega) _)
            have hH := hH.subcel 60 rfl 1500 hf1_0 (Rd.inok ((hH.rd 60 rfl)) (by omega) _)
            have hH := hH.subcel 60 rfl 1501 hf1_1 (Rd.inok ((hH.rd 60 rfl)) (by omega) _)
            refine wp_skip ?_
            refine hK17 _ _ ?_
            refine wp_seq_k fun khK19 hK19 => ?_
            refine wp_block ?_
            refine r_start [(901, .rd_ TactE A script c (fun k => k < w0.heap.size)), (902, .rd_ Rep.sn A2 others c2 (fun k => k < w0.heap.size)), (60, .rd_ TentE Ar60 l cr60 (fun kb => (Value.slice Ar60 l.length cr60).ownBlock = some kb)), (1499, .cels (adr Ar60 (Int.toNat ((n - 1 : Nat) : Int) * 2)) #[.string (strOfNums (gtent l ((n - 1 : Nat) : Int)).1), .string (strOfNums (gtent l ((n - 1 : Nat) : Int)).2)]), (1500, .cel (adr Ar60 (Int.toNat ((n - 1 : Nat) : Int) * 2)) (.string (strOfNums (gtent l ((n - 1 : Nat) : Int)).1))), (1501, .cel (adr Ar60 (Int.toNat ((n - 1 : Nat) : Int) * 2 + 1)) (.string (strOfNums (gtent l ((n - 1 : Nat) : Int)).2)))] (by kernel_rfl) hH fun hH => ?_
            have hS : SL [(901, .rd_ TactE A script c (fun k => k < w0.heap.size)), (902, .rd_ Rep.sn A2 others c2 (fun k => k < w0.heap.size)), (60, .rd_ TentE Ar60 l cr60 (fun kb => (Value.slice Ar60 l.length cr60).ownBlock = some kb)), (1499, .cels (adr Ar60 (Int.toNat ((n - 1 : Nat) : Int) * 2)) #[.string (strOfNums (gtent l ((n - 1 : Nat) : Int)).1), .string (strOfNums (gtent l ((n - 1 : Nat) : Int)).2)]), (1500, .cel (adr Ar60 (Int.toNat ((n - 1 : Nat) : Int) * 2)) (.string (strOfNums (gtent l ((n - 1 : Nat) : Int)).1))), (1501, .cel (adr Ar60 (Int.toNat ((n - 1 : Nat) : Int) * 2 + 1)) (.string (strOfNums (gtent l ((n - 1 : Nat) : Int)).2)))] _ := SL.of hH (sub_cons (sub_cons (sub_cons (sub_cons (sub_cons (sub_cons (sub_nil _) 1501 rfl) 1500 rfl) 1499 rfl) 60 rfl) 902 rfl) 901 rfl)
            refine r_take 0 hF rfl rfl rfl (by kernel_rfl) (by kernel_rfl) (by kernel_rfl) (fun _ _ _ h => h) rfl hS (fun w hS => x_move (hF.tmp 6 rfl)) rfl ?_; clear hF; intro a hF
            refine r_take 1 hF rfl rfl rfl (by kernel_rfl) (by kernel_rfl) (by kernel_rfl) (fun _ _ _ h => h) rfl hS (fun w hS => x_move (hF.tmp 7 rfl)) rfl ?_; clear hF; intro a hF
            refine r_take 2 hF rfl rfl rfl (by kernel_rfl) (by kernel_rfl) (by kernel_rfl) (fun _ _ _ h => h) rfl hS (fun w hS => x_move (hF.tmp 9 rfl)) rfl ?_; clear hF; intro a hF
            refine r_take 3 hF rfl rfl rfl (by kernel_rfl) (by kernel_rfl) (by kernel_rfl) (fun _ _ _ h => h) rfl hS (fun w hS => x_iaddr_A Try.underlying25 ty30 ((hH.rd 60 rfl)) (hF.tmp 67 rfl) (hF.tmp 68 rfl) (by omega) (by omega) _) rfl ?_; clear hF; intro a hF
            refine r_take 4 hF rfl rfl rfl (by kernel_rfl) (by kernel_rfl) (by kernel_rfl) (fun _ _ _ h => h) rfl hS (fun w hS => x_faddrA ((SL.rd hS 60 rfl)) (by omega) _ Try.underlying30 rfl ty9 (by decide) (hF.tmp 69 rfl) rfl) rfl ?_; clear hF; intro a hF
            refine r_take 5 hF rfl rfl rfl (by kernel_rfl) (by kernel_rfl) (by kernel_rfl) (fun _ _ _ h => h) rfl hS (fun w hS => x_load1 ty9 (hF.tmp 70 rfl) (hS 1500 _ rfl)) rfl ?_; clear hF; intro a hF
            refine r_take 6 hF rfl rfl rfl (by kernel_rfl) (by kernel_rfl) (by kernel_rfl) (fun _ _ _ h => h) rfl hS (fun w hS => x_move (hF.tmp 7 rfl)) rfl ?_; clear hF; intro a hF
            refine r_take 7 hF rfl rfl rfl (by kernel_rfl) (by kernel_rfl) (by kernel_rfl) (fun _ _ _ h => h) rfl hS (fun w hS => x_move (hF.tmp 9 rfl)) rfl ?_; clear hF; intro a hF
            refine r_take 8 hF rfl rfl rfl (by kernel_rfl) (by kernel_rfl) (by kernel_rfl) (fun _ _ _ h => h) rfl hS (fun w hS => x_iaddr_A Try.underlying25 ty30 ((hH.rd 60 rfl)) (hF.tmp 72 rfl) (hF.tmp 73 rfl) (by omega) (by omega) _) rfl ?_; clear hF; intro a hF
            refine r_take 9 hF rfl rfl rfl (by kernel_rfl) (by kernel_rfl) (by kernel_rfl) (fun _ _ _ h => h) rfl hS (fun w hS => x_faddrA ((SL.rd hS 60 rfl)) (by omega) _ Try.underlying30 rfl ty9 (by decide) (hF.tmp 74 rfl) rfl) rfl ?_; clear hF; intro a hF
            refine r_take 10 hF rfl rfl rfl (by kernel_rfl) (by kernel_rfl) (by kernel_rfl) (fun _ _ _ h => h) rfl hS (fun w hS => x_load1 ty9 (hF.tmp 75 rfl) (hS 1501 _ rfl)) rfl ?_; clear hF; intro a hF
            refine r_do 11 rfl (by kernel_rfl) rfl rfl ?_
            refine w_call hF (x_enter Try.func15 (by kernel_rfl) rfl (by simp only [List.map_toArray, List.map_cons, List.map_nil, hF.tmp 66 rfl, hF.tmp 71 rfl, hF.tmp 76 rfl] <;> rfl)) (put_calls (key := ((gtent l ((n - 1 : Nat) : Int)).1)) (v := ((gtent l ((n - 1 : Nat) : Int)).2)) _ hq2_1 (hH.okX 200 rfl) ((TrieA.byte hX (gtent_mem (xs := l) (j := n - 1) (by omega))).1.1) ((TrieA.byte hX (gtent_mem (xs := l) (j := n - 1) (by omega))).1.2) ((TrieA.byte hX (gtent_mem (xs := l) (j := n - 1) (by omega))).2.1) ((TrieA.byte hX (gtent_mem (xs := l) (j := n - 1) (by omega))).2.2) (by omega)) rfl rfl ?_
            rintro _ w ⟨Y1, rfl, hY1, hg_⟩; refine ⟨_, rfl, ?_⟩; clear hF; intro a hF; have hH := hH.grew 200 rfl hg_ (fun k hk => hk.elim)
            clear hS; have hS : SL _ _ := SL.of hH (sub_cons (sub_cons (sub_cons (sub_cons (sub_cons (sub_cons (sub_nil _) 1501 rfl) 1500 rfl) 1499 rfl) 60 rfl) 902 rfl) 901 rfl); refine ⟨hS, ?_⟩
            refine r_end (by kernel_rfl) ?_; clear hS
            refine hK19 _ _ ?_
            refine wp_region_lit ?_
            refine l_at hF rfl rfl rfl (x_move (hF.tmp 9 rfl)) ?_; clear hF; intro a hF
            refine l_at hF rfl rfl rfl (x_sub (hF.tmp 64 rfl) rfl (w64 (by omega) (by omega))) ?_; clear hF; intro a hF
            refine l_at hF rfl rfl rfl (x_assign (hF.tmp 65 rfl)) ?_; clear hF; intro a hF
            refine wpList_nil ?_
            exact ⟨_, by omega, ⟨n - 1, Y1, (putL mb ((gtent l ((n - 1 : Nat) : Int)).1) ((gtent l ((n - 1 : Nat) : Int)).2)), rfl, by omega, hY1, (Nat.le_trans (put_le (TrieA.sorted hq2_1) hq2_2) (by omega)), (any_put1 hq2_3 (by omega)), (any_put2 (TrieA.sorted hX) (fun j h1 h2 => hq2_4 j (by omega) h2) (by omega)), (((((hF.bare.add hF 9 rfl).add hF 7 rfl).add hF 6 rfl).add hF 5 rfl).add hF 1 rfl), hH.sub _ (sub_cons (sub_cons (sub_cons (sub_cons (sub_cons (sub_nil _) 60 rfl) 200 rfl) 100 rfl) 902 rfl) 901 rfl)⟩⟩
          · have hk63_8 := hc63; try simp only [Bool.or_eq_true, Bool.and_eq_true, Bool.or_eq_false_iff, Bool.and_eq_false_iff, Bool.not_eq_true', Bool.not_eq_false', decide_eq_true_eq, decide_eq_false_iff_not, Bool.not_true, Bool.not_false] at hc63
            refine wp_exit ?_
            refine hK15 _ _ ?_
            refine wp_seq_k fun khK20 hK20 => ?_
            refine wp_seq_k fun khK21 hK21 => ?_
            refine wp_region_lit ?_
            refine l_at hF rfl rfl rfl (x_assign rfl) ?_; clear hF; intro a hF
            refine wpList_nil ?_
            refine hK21 _ _ ?_
            refine wp_block ?_
            refine wp_loop_ghost (fun n_ a w => ∃ i : Nat, ∃ U4 : Asn, ∃ m4 : List Ent, n_ = others.length - i ∧ (i ≤ others.length) ∧ (TrieA 58 62 9 ub m4 U4) ∧ (m4.length ≤ 240) ∧ (∀ e ∈ l, e ∈ m4) ∧ (∀ e ∈ m4, e ∈ l ∨ InO others i e.1) ∧ Fr 167 a [(1, .slice A2 others.length c2), (5, .pointer (some ⟨tb, 0, none⟩)), (6, .pointer (some ⟨ub, 0, none⟩)), (7, .slice Ar60 l.length cr60), (10, .int .i64 (i : Int))] ∧ Hp (fun _ => False) w0 w [(901, .rd_ TactE A script c (fun k => k < w0.heap.size)), (902, .rd_ Rep.sn A2 others c2 (fun k => k < w0.heap.size)), (100, X), (200, U4), (60, .rd_ TentE Ar60 l cr60 (fun kb => (Value.slice Ar60 l.length cr60).ownBlock = some kb))]) (others.length) ?_ ?_
            · exact ⟨0, Ub, mb, rfl, Nat.zero_le _, hq2_1, (by omega), (any_full (fun j h1 h2 => hq2_4 j (by omega) h2)), hq2_3, (((((hF.bare.add hF 10 rfl).add hF 7 rfl).add hF 6 rfl).add hF 5 rfl).add hF 1 rfl), hH.sub _ (sub_cons (sub_cons (sub_cons (sub_cons (sub_cons (sub_nil _) 60 rfl) 200 rfl) 100 rfl) 902 rfl) 901 rfl)⟩
            · rintro _ a w ⟨i, U4, m4, rfl, hq4_0, hq4_1, hq4_2, hq4_3, hq4_4, hF, hH⟩
              refine wp_seq_k fun khK22 hK22 => ?_
              refine wp_seq_k fun khK23 hK23 => ?_
              refine wp_region_lit ?_
              refine l_at hF rfl rfl rfl (x_move (hF.tmp 10 rfl)) ?_; clear hF; intro a hF
              refine l_at hF rfl rfl rfl (x_move (hF.tmp 1 rfl)) ?_; clear hF; intro a hF
              refine l_at hF rfl rfl rfl (x_len_slice Try.underlying34 (hF.tmp 79 rfl)) ?_; clear hF; intro a hF
              refine l_at hF rfl rfl rfl (x_lss (hF.tmp 78 rfl) (hF.tmp 80 rfl)) ?_; clear hF; intro a hF
              refine wpList_nil ?_
              refine hK23 _ _ ?_
              refine wp_cond_split (hF.tmp 81 rfl) (fun hc81 => ?_) (fun hc81 => ?_)
              · have hk81_9 := hc81; try simp only [Bool.or_eq_true, Bool.and_eq_true, Bool.or_eq_false_iff, Bool.and_eq_false_iff, Bool.not_eq_true', Bool.not_eq_false', decide_eq_true_eq, decide_eq_false_iff_not, Bool.not_true, Bool.not_false] at hc81
                refine wp_skip ?_
                refine hK22 _ _ ?_
                refine wp_seq_k fun khK24 hK24 => ?_
                refine wp_block ?_
                refine wp_seq_k fun khK25 hK25 => ?_
                refine wp_region_lit ?_
                refine l_at hF rfl rfl rfl (x_move (hF.tmp 5 rfl)) ?_; clear hF; intro a hF
                refine l_at hF rfl rfl rfl (x_move (hF.tmp 1 rfl)) ?_; clear hF; intro a hF
                refine l_at hF rfl rfl rfl (x_move (hF.tmp 10 rfl)) ?_; clear hF; intro a hF
                refine l_at hF rfl rfl rfl (x_iaddr_A Try.underlying34 ty9 ((hH.rd 902 rfl)) (hF.tmp 86 rfl) (hF.tmp 87 rfl) (by omega) (by omega) _) ?_; clear hF; intro a hF
                refine l_at hF rfl rfl rfl (x_load1 ty9 (hF.tmp 88 rfl) (((hH.rd 902 rfl)).cellA (gsn_some (i := (i : Int)) (by omega) (by omega)))) ?_; clear hF; intro a hF
                refine wpList_plain rfl fun K hK => ?_
                refine w_call hF (x_enter Try.func11 (by kernel_rfl) rfl (by simp only [List.map_toArray, List.map_cons, List.map_nil, hF.tmp 85 rfl, hF.tmp 89 rfl] <;> rfl)) (get_calls (key := (gsn others (i : Int))) _ hX (hH.okX 100 rfl) (hoB _ (gsn_mem (xs := others) (j := i) (by omega))).1 (Nat.le_trans (hoB _ (gsn_mem (xs := others) (j := i) (by omega))).2 (by decide))) rfl rfl ?_
                rintro _ w ⟨rfl, hm_⟩; refine ⟨_, rfl, ?_⟩; clear hF; intro a hF; have hH := hH.same hm_
                refine hK _ _ ?_; clear hK K
                refine l_at hF rfl rfl rfl (x_move (hF.tmp 90 rfl)) ?_; clear hF; intro a hF
                refine l_at hF rfl rfl rfl (x_extract (hF.tmp 84 rfl) rfl) ?_; clear hF; intro a hF
                refine l_at hF rfl rfl rfl (x_extract (hF.tmp 84 rfl) rfl) ?_; clear hF; intro a hF
                refine l_at hF rfl rfl rfl (x_assign (hF.tmp 91 rfl)) ?_; clear hF; intro a hF
                refine l_at hF rfl rfl rfl (x_assign (hF.tmp 92 rfl)) ?_; clear hF; intro a hF
                refine wpList_nil ?_
                refine hK25 _ _ ?_
                refine wp_seq_k fun khK26 hK26 => ?_
                refine wp_region_lit ?_
                refine l_at hF rfl rfl rfl (x_move (hF.tmp 12 rfl)) ?_; clear hF; intro a hF
                refine l_at hF rfl rfl rfl (x_not (hF.tmp 93 rfl)) ?_; clear hF; intro a hF
                refine wpList_nil ?_
                refine hK26 _ _ ?_
                refine wp_norm_k fun khK27 hK27 => ?_
                have hJ94 : ∀ a w, ∀ U5 : Asn, ∀ m5 : List Ent, (TrieA 58 62 9 ub m5 U5) → (m5.length ≤ 240) → (∀ e ∈ l, e ∈ m5) → (∀ e ∈ m5, e ∈ l ∨ InO others (i + 1) e.1) → Fr 167 a [(1, .slice A2 others.length c2), (5, .pointer (some ⟨tb, 0, none⟩)), (6, .pointer (some ⟨ub, 0, none⟩)), (7, .slice Ar60 l.length cr60), (10, .int .i64 (i : Int))] → Hp (fun _ => False) w0 w [(901, .rd_ TactE A script c (fun k => k < w0.heap.size)), (902, .rd_ Rep.sn A2 others c2 (fun k => k < w0.heap.size)), (100, X), (200, U5), (60, .rd_ TentE Ar60 l cr60 (fun kb => (Value.slice Ar60 l.length cr60).ownBlock = some kb))] → khK27 a w := by
                  intro a w U5 m5 hj94_0 hj94_1 hj94_2 hj94_3 hF hH
                  refine hK27 a w ?_
                  refine hK24 _ _ ?_
                  refine wp_region_lit ?_
                  refine l_at hF rfl rfl rfl (x_move (hF.tmp 10 rfl)) ?_; clear hF; intro a hF
                  refine l_at hF rfl rfl rfl (x_add (hF.tmp 82 rfl) rfl (show IntKind.i64.wrap _ = ((i + 1 : Nat) : Int) from by rw [w64 (by omega) (by omega)] <;> omega)) ?_; clear hF; intro a hF
                  refine l_at hF rfl rfl rfl (x_assign (hF.tmp 83 rfl)) ?_; clear hF; intro a hF
                  refine wpList_nil ?_
                  exact ⟨_, by omega, ⟨i + 1, U5, m5, rfl, by omega, hj94_0, hj94_1, hj94_2, hj94_3, (((((hF.bare.add hF 10 rfl).add hF 7 rfl).add hF 6 rfl).add hF 5 rfl).add hF 1 rfl), hH.sub _ (sub_cons (sub_cons (sub_cons (sub_cons (sub_cons (sub_nil _) 60 rfl) 200 rfl) 100 rfl) 902 rfl) 901 rfl)⟩⟩
                refine wp_cond_split (hF.tmp 94 rfl) (fun hc94 => ?_) (fun hc94 => ?_)
                · have hk94_10 := hc94; try simp only [Bool.or_eq_true, Bool.and_eq_true, Bool.or_eq_false_iff, Bool.and_eq_false_iff, Bool.not_eq_true', Bool.not_eq_false', decide_eq_true_eq, decide_eq_false_iff_not, Bool.not_true, Bool.not_false] at hc94
                  refine wp_region_lit ?_
                  refine l_at hF rfl rfl rfl (x_move (hF.tmp 6 rfl)) ?_; clear hF; intro a hF
                  refine l_at hF rfl rfl rfl (x_move (hF.tmp 1 rfl)) ?_; clear hF; intro a hF
                  refine l_at hF rfl rfl rfl (x_move (hF.tmp 10 rfl)) ?_; clear hF; intro a hF
                  refine l_at hF rfl rfl rfl (x_iaddr_A Try.underlying34 ty9 ((hH.rd 902 rfl)) (hF.tmp 96 rfl) (hF.tmp 97 rfl) (by omega) (by omega) _) ?_; clear hF; intro a hF
                  refine l_at hF rfl rfl rfl (x_load1 ty9 (hF.tmp 98 rfl) (((hH.rd 902 rfl)).cellA (gsn_some (i := (i : Int)) (by omega) (by omega)))) ?_; clear hF; intro a hF
                  refine wpList_plain rfl fun K hK => ?_
                  refine w_call hF (x_enter Try.func16 (by kernel_rfl) rfl (by simp only [List.map_toArray, List.map_cons, List.map_nil, hF.tmp 95 rfl, hF.tmp 99 rfl] <;> rfl)) (drop1_calls (key := (gsn others (i : Int))) _ hq4_1 (hH.okX 200 rfl) (hoB _ (gsn_mem (xs := others) (j := i) (by omega))).1 (Nat.le_trans (hoB _ (gsn_mem (xs := others) (j := i) (by omega))).2 (by decide)) (by omega)) rfl rfl ?_
                  rintro _ w ⟨Y1, rfl, hY1, hg_⟩; refine ⟨_, rfl, ?_⟩; clear hF; intro a hF; have hH := hH.grew 200 rfl hg_ (fun k hk => hk.elim)
                  refine hK _ _ ?_; clear hK K
                  refine wpList_nil ?_
                  exact hJ94 _ _ Y1 (dropL m4 (gsn others (i : Int))) hY1 (drop_le hq4_2) (any_drop1 hq4_3 (by simpa using hc94)) (any_drop2 hq4_4) (((((hF.bare.add hF 10 rfl).add hF 7 rfl).add hF 6 rfl).add hF 5 rfl).add hF 1 rfl) (hH.sub _ (sub_cons (sub_cons (sub_cons (sub_cons (sub_cons (sub_nil _) 60 rfl) 200 rfl) 100 rfl) 902 rfl) 901 rfl))
                · have hk94_11 := hc94; try simp only [Bool.or_eq_true, Bool.and_eq_true, Bool.or_eq_false_iff, Bool.and_eq_false_iff, Bool.not_eq_true', Bool.not_eq_false', decide_eq_true_eq, decide_eq_false_iff_not, Bool.not_true, Bool.not_false] at hc94
                  refine wp_skip ?_
                  exact hJ94 _ _ U4 m4 hq4_1 hq4_2 hq4_3 (any_skip hq4_3 (TrieA.sorted hq4_1) hq4_4 (by omega) (by simpa using hc94)) (((((hF.bare.add hF 10 rfl).add hF 7 rfl).add hF 6 rfl).add hF 5 rfl).add hF 1 rfl) (hH.sub _ (sub_cons (sub_cons (sub_cons (sub_cons (sub_cons (sub_nil _) 60 rfl) 200 rfl) 100 rfl) 902 rfl) 901 rfl))
              · have hk81_12 := hc81; try simp only [Bool.or_eq_true, Bool.and_eq_true, Bool.or_eq_false_iff, Bool.and_eq_false_iff, Bool.not_eq_true', Bool.not_eq_false', decide_eq_true_eq, decide_eq_false_iff_not, Bool.not_true, Bool.not_false] at hc81
                have hml := any_end (TrieA.sorted hX) (TrieA.sorted hq4_1) hq4_3 hq4_4 (by omega)
                have hUl := hq4_1
                rw [hml] at hUl
                refine wp_exit ?_
                refine hK20 _ _ ?_
                refine wp_seq_k fun khK28 hK28 => ?_
                refine wp_region_lit ?_
                refine l_at hF rfl rfl rfl (x_move (hF.tmp 6 rfl)) ?_; clear hF; intro a hF
                refine wpList_plain rfl fun K hK => ?_
                refine w_call hF (x_enter Try.func10 (by kernel_rfl) rfl (by simp only [List.map_toArray, List.map_cons, List.map_nil, hF.tmp 101 rfl] <;> kernel_rfl)) (walk_calls (pre := ([] : List Int)) _ hUl (hH.okX 200 rfl) (by unfold Byte; decide) (by decide) (most := 120) (by omega) (by omega) (by omega) (by unfold kmax; omega)) rfl rfl ?_
                rintro _ w ⟨vr62, rfl, hm_, hr_⟩; refine ⟨_, rfl, ?_⟩; clear hF; intro a hF; have hH := Hp.rowOut hH 62 hm_ hr_; obtain ⟨Ar62, cr62, rfl⟩ := (hH.row 62 rfl).form
                refine hK _ _ ?_; clear hK K
                rw [walkL_all hl120] at hF hH
                have hH := hH.freeze 62 rfl (fun kb => (Value.slice Ar62 l.length cr62).ownBlock = some kb) (fun kb => ⟨fun h => .inr h, fun h => h.resolve_left id⟩)
                refine wpList_plain rfl fun K hK => ?_
                refine w_call hF (x_enter Try.func18 (by kernel_rfl) rfl (by simp only [List.map_toArray, List.map_cons, List.map_nil, hF.tmp 102 rfl] <;> rfl)) (told_calls _ ((hH.rd 62 rfl)) (by simp only [List.length_nil] at *; omega)) rfl rfl ?_
                rintro _ w ⟨vr63, rfl, hm_, hr_⟩; refine ⟨_, rfl, ?_⟩; clear hF; intro a hF; have hH := Hp.rowOut hH 63 hm_ hr_; obtain ⟨Ar63, cr63, rfl⟩ := (hH.row 63 rfl).form
                refine hK _ _ ?_; clear hK K
                refine l_at hF rfl rfl rfl (x_move (hF.tmp 7 rfl)) ?_; clear hF; intro a hF
                refine wpList_plain rfl fun K hK => ?_
                refine w_call hF (x_enter Try.func18 (by kernel_rfl) rfl (by simp only [List.map_toArray, List.map_cons, List.map_nil, hF.tmp 104 rfl] <;> rfl)) (told_calls _ ((hH.rd 60 rfl)) (by simp only [List.length_nil] at *; omega)) rfl rfl ?_
                rintro _ w ⟨vr64, rfl, hm_, hr_⟩; refine ⟨_, rfl, ?_⟩; clear hF; intro a hF; have hH := Hp.rowOut hH 64 hm_ hr_; obtain ⟨Ar64, cr64, rfl⟩ := (hH.row 64 rfl).form
                refine hK _ _ ?_; clear hK K
                refine wpList_plain rfl fun K hK => ?_
                refine w_call hF (x_enter Try.func17 (by kernel_rfl) rfl (by simp only [List.map_toArray, List.map_cons, List.map_nil, hF.tmp 103 rfl, hF.tmp 105 rfl] <;> rfl)) (same_calls _ (Row.rd (ok' := fun k_ => (fun _ => False) k_ ∨ (.slice Ar63 l.length cr63 : Value).ownBlock = some k_) (hH.row 63 rfl) (fun _ hk_ _ => .inl hk_) (fun _ hk_ => .inr hk_)) (Row.rd (ok' := fun k_ => (fun _ => False) k_ ∨ (.slice Ar64 l.length cr64 : Value).ownBlock = some k_) (hH.row 64 rfl) (fun _ hk_ _ => .inl hk_) (fun _ hk_ => .inr hk_)) (fun e he => ⟨(TrieA.byte hX he).1.1, (TrieA.byte hX he).2.1⟩)) rfl rfl ?_
                rintro _ w ⟨rfl, hm_⟩; refine ⟨_, rfl, ?_⟩; clear hF; intro a hF; have hH := hH.same hm_
                refine hK _ _ ?_; clear hK K
                refine l_at hF rfl rfl rfl (x_assign (hF.tmp 106 rfl)) ?_; clear hF; intro a hF
                refine wpList_nil ?_
                refine hK28 _ _ ?_
                refine wp_seq_k fun khK29 hK29 => ?_
                refine wp_seq_k fun khK30 hK30 => ?_
                refine wp_region_lit ?_
                refine l_at hF rfl rfl rfl (x_move (hF.tmp 13 rfl)) ?_; clear hF; intro a hF
                refine l_at hF rfl rfl rfl (x_not (hF.tmp 107 rfl)) ?_; clear hF; intro a hF
                refine l_at hF rfl rfl rfl (x_move (hF.tmp 108 rfl)) ?_; clear hF; intro a hF
                refine l_atg hF ((wanted_of hF rfl rfl rfl rfl).trans rfl) rfl rfl (x_move (hF.tmp 6 rfl)) ?_; clear hF; intro a hF
                refine wpList_on ((wanted_of hF rfl rfl rfl rfl).trans rfl) fun K hK => ?_
                refine w_call hF (x_enter Try.func19 (by kernel_rfl) rfl (by simp only [List.map_toArray, List.map_cons, List.map_nil, hF.tmp 110 rfl] <;> rfl)) (nodes_calls _ hUl (hH.okX 200 rfl)) rfl rfl ?_
                rintro _ w ⟨rfl, hm_⟩; refine ⟨_, rfl, ?_⟩; clear hF; intro a hF; have hH := hH.same hm_
                refine hK _ _ ?_; clear hK K
                refine l_atg hF ((wanted_of hF rfl rfl rfl rfl).trans rfl) rfl rfl (x_move (hF.tmp 5 rfl)) ?_; clear hF; intro a hF
                refine wpList_on ((wanted_of hF rfl rfl rfl rfl).trans rfl) fun K hK => ?_
                refine w_call hF (x_enter Try.func19 (by kernel_rfl) rfl (by simp only [List.map_toArray, List.map_cons, List.map_nil, hF.tmp 112 rfl] <;> rfl)) (nodes_calls _ hX (hH.okX 100 rfl)) rfl rfl ?_
                rintro _ w ⟨rfl, hm_⟩; refine ⟨_, rfl, ?_⟩; clear hF; intro a hF; have hH := hH.same hm_
                refine hK _ _ ?_; clear hK K
                refine l_atg hF ((wanted_of hF rfl rfl rfl rfl).trans rfl) rfl rfl (x_neq (hF.tmp 111 rfl) (hF.tmp 113 rfl)) ?_; clear hF; intro a hF
                rw [decide_eq_true rfl] at hF
                refine l_at hF rfl rfl rfl (x_pickF (hF.tmp 109 rfl) rfl (hF.tmp 114 rfl)) ?_; clear hF; intro a hF
                refine wpList_nil ?_
                refine hK30 _ _ ?_
                refine wp_cond_false (hF.tmp 115 rfl) ?_
                refine wp_skip ?_
                refine hK29 _ _ ?_
                refine wp_seq_k fun khK31 hK31 => ?_
                refine wp_seq_k fun khK32 hK32 => ?_
                refine wp_region_lit ?_
                refine l_at hF rfl rfl rfl (x_assign rfl) ?_; clear hF; intro a hF
                refine wpList_nil ?_
                refine hK32 _ _ ?_
                refine wp_block ?_
                refine wp_loop_ghost (fun n_ a w => ∃ i : Nat, ∃ U6 : Asn, n_ = l.length - i ∧ (i ≤ l.length) ∧ (TrieA 58 62 9 ub (l.drop i) U6) ∧ Fr 167 a [(6, .pointer (some ⟨ub, 0, none⟩)), (7, .slice Ar60 l.length cr60), (14, .int .i64 (i : Int))] ∧ Hp (fun _ => False) w0 w [(901, .rd_ TactE A script c (fun k => k < w0.heap.size)), (902, .rd_ Rep.sn A2 others c2 (fun k => k < w0.heap.size)), (100, X), (200, U6), (60, .rd_ TentE Ar60 l cr60 (fun kb => (Value.slice Ar60 l.length cr60).ownBlock = some kb)), (62, .rd_ TentE Ar62 l cr62 (fun kb => (Value.slice Ar62 l.length cr62).ownBlock = some kb)), (63, .row TentE 48 (.slice Ar63 l.length cr63) l (fun _ => False)), (64, .row TentE 48 (.slice Ar64 l.length cr64) l (fun _ => False))]) (l.length) ?_ ?_
                · exact ⟨0, U4, rfl, Nat.zero_le _, hUl, (((hF.bare.add hF 14 rfl).add hF 7 rfl).add hF 6 rfl), hH.sub _ (sub_cons (sub_cons (sub_cons (sub_cons (sub_cons (sub_cons (sub_cons (sub_cons (sub_nil _) 64 rfl) 63 rfl) 62 rfl) 60 rfl) 200 rfl) 100 rfl) 902 rfl) 901 rfl)⟩
                · rintro _ a w ⟨i, U6, rfl, hq6_0, hq6_1, hF, hH⟩
                  refine wp_seq_k fun khK33 hK33 => ?_
                  refine wp_seq_k fun khK34 hK34 => ?_
                  refine wp_region_lit ?_
                  refine l_at hF rfl rfl rfl (x_move (hF.tmp 14 rfl)) ?_; clear hF; intro a hF
                  refine l_at hF rfl rfl rfl (x_move (hF.tmp 7 rfl)) ?_; clear hF; intro a hF
                  refine l_at hF rfl rfl rfl (x_len_slice Try.underlying25 (hF.tmp 117 rfl)) ?_; clear hF; intro a hF
                  refine l_at hF rfl rfl rfl (x_lss (hF.tmp 116 rfl) (hF.tmp 118 rfl)) ?_; clear hF; intro a hF
                  refine wpList_nil ?_
                  refine hK34 _ _ ?_
                  refine wp_cond_split (hF.tmp 119 rfl) (fun hc119 => ?_) (fun hc119 => ?_)
                  · have hk119_13 := hc119; try simp only [Bool.or_eq_true, Bool.and_eq_true, Bool.or_eq_false_iff, Bool.and_eq_false_iff, Bool.not_eq_true', Bool.not_eq_false', decide_eq_true_eq, decide_eq_false_iff_not, Bool.not_true, Bool.not_false] at hc119
                    refine wp_skip ?_
                    refine hK33 _ _ ?_
                    refine wp_seq_k fun khK35 hK35 => ?_
                    refine wp_block ?_
                    refine wp_seq_k fun khK36 hK36 => ?_
                    refine wp_region_lit ?_
                    refine l_at hF rfl rfl rfl (x_move (hF.tmp 6 rfl)) ?_; clear hF; intro a hF
                    refine l_at hF rfl rfl rfl (x_move (hF.tmp 7 rfl)) ?_; clear hF; intro a hF
                    refine l_at hF rfl rfl rfl (x_move (hF.tmp 14 rfl)) ?_; clear hF; intro a hF
                    obtain ⟨hf3_0, hf3_1, hfw3⟩ := rd_tent ((hH.rd 60 rfl)) (gtent_some (xs := l) (i := (i : Int)) (by omega) (by omega))
                    have hH := hH.subcels 60 rfl 3499 hfw3 (Rd.inok ((hH.rd 60 rfl)) (by omega) _)
                    have hH := hH.subcel 60 rfl 3500 hf3_0 (Rd.inok ((hH.rd 60 rfl)) (by omega) _)
                    have hH := hH.subcel 60 rfl 3501 hf3_1 (Rd.inok ((hH.rd 60 rfl)) (by omega) _)
                    refine l_at hF rfl rfl rfl (x_iaddr_A Try.underlying25 ty30 ((hH.rd 60 rfl)) (hF.tmp 124 rfl) (hF.tmp 125 rfl) (by omega) (by omega) _) ?_; clear hF; intro a hF
                    refine l_at hF rfl rfl rfl (x_faddrA ((hH.rd 60 rfl)) (by omega) _ Try.underlying30 rfl ty9 (by decide) (hF.tmp 126 rfl) rfl) ?_; clear hF; intro a hF
                    refine l_at hF rfl rfl rfl (x_load1 ty9 (hF.tmp 127 rfl) (hH.holds 3500 _ rfl)) ?_; clear hF; intro a hF
                    refine wpList_plain rfl fun K hK => ?_
                    refine w_call hF (x_enter Try.func16 (by kernel_rfl) rfl (by simp only [List.map_toArray, List.map_cons, List.map_nil, hF.tmp 123 rfl, hF.tmp 128 rfl] <;> rfl)) (drop1_calls (key := ((gtent l (i : Int)).1)) _ hq6_1 (hH.okX 200 rfl) ((TrieA.byte hX (gtent_mem (xs := l) (j := i) (by omega))).1.1) (Nat.le_trans ((TrieA.byte hX (gtent_mem (xs := l) (j := i) (by omega))).1.2) (by decide)) (by rw [List.length_drop]; omega)) rfl rfl ?_
                    rintro _ w ⟨Y1, rfl, hY1, hg_⟩; refine ⟨_, rfl, ?_⟩; clear hF; intro a hF; have hH := hH.grew 200 rfl hg_ (fun k hk => hk.elim)
                    refine hK _ _ ?_; clear hK K
                    rw [al_drop9 (TrieA.sorted hX) (by omega)] at hF
                    have hD1 : TrieA 58 62 9 ub (l.drop (i + 1)) Y1 := by rw [← drop_drop9 (TrieA.sorted hX) (by omega)]; exact hY1
                    refine l_at hF rfl rfl rfl (x_move (hF.tmp 129 rfl)) ?_; clear hF; intro a hF
                    refine l_at hF rfl rfl rfl (x_extract (hF.tmp 122 rfl) rfl) ?_; clear hF; intro a hF
                    refine l_at hF rfl rfl rfl (x_extract (hF.tmp 122 rfl) rfl) ?_; clear hF; intro a hF
                    refine l_at hF rfl rfl rfl (x_assign (hF.tmp 130 rfl)) ?_; clear hF; intro a hF
                    refine l_at hF rfl rfl rfl (x_assign (hF.tmp 131 rfl)) ?_; clear hF; intro a hF
                    refine wpList_nil ?_
                    refine hK36 _ _ ?_
                    refine wp_seq_k fun khK37 hK37 => ?_
                    refine wp_region_lit ?_
                    refine l_at hF rfl rfl rfl (x_move (hF.tmp 6 rfl)) ?_; clear hF; intro a hF
                    refine l_at hF rfl rfl rfl (x_move (hF.tmp 7 rfl)) ?_; clear hF; intro a hF
                    refine l_at hF rfl rfl rfl (x_move (hF.tmp 14 rfl)) ?_; clear hF; intro a hF
                    refine l_at hF rfl rfl rfl (x_iaddr_A Try.underlying25 ty30 ((hH.rd 60 rfl)) (hF.tmp 134 rfl) (hF.tmp 135 rfl) (by omega) (by omega) _) ?_; clear hF; intro a hF
                    refine l_at hF rfl rfl rfl (x_faddrA ((hH.rd 60 rfl)) (by omega) _ Try.underlying30 rfl ty9 (by decide) (hF.tmp 136 rfl) rfl) ?_; clear hF; intro a hF
                    refine l_at hF rfl rfl rfl (x_load1 ty9 (hF.tmp 137 rfl) (hH.holds 3500 _ rfl)) ?_; clear hF; intro a hF
                    refine wpList_plain rfl fun K hK => ?_
                    refine w_call hF (x_enter Try.func16 (by kernel_rfl) rfl (by simp only [List.map_toArray, List.map_cons, List.map_nil, hF.tmp 133 rfl, hF.tmp 138 rfl] <;> rfl)) (drop1_calls (key := ((gtent l (i : Int)).1)) _ hD1 (hH.okX 200 rfl) ((TrieA.byte hX (gtent_mem (xs := l) (j := i) (by omega))).1.1) (Nat.le_trans ((TrieA.byte hX (gtent_mem (xs := l) (j := i) (by omega))).1.2) (by decide)) (by rw [List.length_drop]; omega)) rfl rfl ?_
                    rintro _ w ⟨Y2, rfl, hY2, hg_⟩; refine ⟨_, rfl, ?_⟩; clear hF; intro a hF; have hH := hH.grew 200 rfl hg_ (fun k hk => hk.elim)
                    refine hK _ _ ?_; clear hK K
                    rw [al_drop10 (TrieA.sorted hX) (by omega)] at hF
                    have hD2 : TrieA 58 62 9 ub (l.drop (i + 1)) Y2 := by have h9 := hY2; rwa [dropL_none (al_drop10 (TrieA.sorted hX) (by omega))] at h9
                    refine l_at hF rfl rfl rfl (x_move (hF.tmp 139 rfl)) ?_; clear hF; intro a hF
                    refine l_at hF rfl rfl rfl (x_extract (hF.tmp 132 rfl) rfl) ?_; clear hF; intro a hF
                    refine l_at hF rfl rfl rfl (x_extract (hF.tmp 132 rfl) rfl) ?_; clear hF; intro a hF
                    refine l_at hF rfl rfl rfl (x_assign (hF.tmp 140 rfl)) ?_; clear hF; intro a hF
                    refine l_at hF rfl rfl rfl (x_assign (hF.tmp 141 rfl)) ?_; clear hF; intro a hF
                    refine wpList_nil ?_
                    refine hK37 _ _ ?_
                    refine wp_seq_k fun khK38 hK38 => ?_
                    have hJr29 : ∀ a w, Fr 167 a [(6, .pointer (some ⟨ub, 0, none⟩)), (7, .slice Ar60 l.length cr60), (14, .int .i64 (i : Int)), (155, .bool false)] → Hp (fun _ => False) w0 w [(901, .rd_ TactE A script c (fun k => k < w0.heap.size)), (902, .rd_ Rep.sn A2 others c2 (fun k => k < w0.heap.size)), (100, X), (200, Y2), (60, .rd_ TentE Ar60 l cr60 (fun kb => (Value.slice Ar60 l.length cr60).ownBlock = some kb)), (62, .rd_ TentE Ar62 l cr62 (fun kb => (Value.slice Ar62 l.length cr62).ownBlock = some kb)), (63, .row TentE 48 (.slice Ar63 l.length cr63) l (fun _ => False)), (64, .row TentE 48 (.slice Ar64 l.length cr64) l (fun _ => False)), (3499, .cels (adr Ar60 (Int.toNat (i : Int) * 2)) #[.string (strOfNums (gtent l (i : Int)).1), .string (strOfNums (gtent l (i : Int)).2)]), (3500, .cel (adr Ar60 (Int.toNat (i : Int) * 2)) (.string (strOfNums (gtent l (i : Int)).1))), (3501, .cel (adr Ar60 (Int.toNat (i : Int) * 2 + 1)) (.string (strOfNums (gtent l (i : Int)).2)))] → khK38 a w := by
                      intro a w  hF hH
                      refine hK38 a w ?_
                      refine wp_cond_false (hF.tmp 155 rfl) ?_
                      refine wp_skip ?_
                      refine hK35 _ _ ?_
                      refine wp_region_lit ?_
                      refine l_at hF rfl rfl rfl (x_move (hF.tmp 14 rfl)) ?_; clear hF; intro a hF
                      refine l_at hF rfl rfl rfl (x_add (hF.tmp 120 rfl) rfl (show IntKind.i64.wrap _ = ((i + 1 : Nat) : Int) from by rw [w64 (by omega) (by omega)] <;> omega)) ?_; clear hF; intro a hF
                      refine l_at hF rfl rfl rfl (x_assign (hF.tmp 121 rfl)) ?_; clear hF; intro a hF
                      refine wpList_nil ?_
                      exact ⟨_, by omega, ⟨i + 1, Y2, rfl, by omega, hD2, (((hF.bare.add hF 14 rfl).add hF 7 rfl).add hF 6 rfl), hH.sub _ (sub_cons (sub_cons (sub_cons (sub_cons (sub_cons (sub_cons (sub_cons (sub_cons (sub_nil _) 64 rfl) 63 rfl) 62 rfl) 60 rfl) 200 rfl) 100 rfl) 902 rfl) 901 rfl)⟩⟩
                    refine wp_region_lit ?_
                    refine l_at hF rfl rfl rfl (x_move (hF.tmp 16 rfl)) ?_; clear hF; intro a hF
                    refine l_at hF rfl rfl rfl (x_not (hF.tmp 142 rfl)) ?_; clear hF; intro a hF
                    refine l_at hF rfl rfl rfl (x_move (hF.tmp 143 rfl)) ?_; clear hF; intro a hF
                    refine l_atg hF ((wanted_of hF rfl rfl rfl rfl).trans rfl) rfl rfl (x_move (hF.tmp 18 rfl)) ?_; clear hF; intro a hF
                    refine l_at hF rfl rfl rfl (x_pickF (hF.tmp 144 rfl) rfl (hF.tmp 145 rfl)) ?_; clear hF; intro a hF
                    refine l_at hF rfl rfl rfl (x_move (hF.tmp 146 rfl)) ?_; clear hF; intro a hF
                    refine l_atg hF ((wanted_of hF rfl rfl rfl rfl).trans rfl) rfl rfl (x_move (hF.tmp 15 rfl)) ?_; clear hF; intro a hF
                    refine l_atg hF ((wanted_of hF rfl rfl rfl rfl).trans rfl) rfl rfl (x_move (hF.tmp 7 rfl)) ?_; clear hF; intro a hF
                    refine l_atg hF ((wanted_of hF rfl rfl rfl rfl).trans rfl) rfl rfl (x_move (hF.tmp 14 rfl)) ?_; clear hF; intro a hF
                    refine l_atg hF ((wanted_of hF rfl rfl rfl rfl).trans rfl) rfl rfl (x_iaddr_A Try.underlying25 ty30 ((hH.rd 60 rfl)) (hF.tmp 149 rfl) (hF.tmp 150 rfl) (by omega) (by omega) _) ?_; clear hF; intro a hF
                    refine l_atg hF ((wanted_of hF rfl rfl rfl rfl).trans rfl) rfl rfl (x_faddrA ((hH.rd 60 rfl)) (by omega) _ Try.underlying30 rfl ty9 (by decide) (hF.tmp 151 rfl) rfl) ?_; clear hF; intro a hF
                    refine l_atg hF ((wanted_of hF rfl rfl rfl rfl).trans rfl) rfl rfl (x_load1 ty9 (hF.tmp 152 rfl) (hH.holds 3501 _ rfl)) ?_; clear hF; intro a hF
                    refine l_atg hF ((wanted_of hF rfl rfl rfl rfl).trans rfl) rfl rfl (x_nen (xs := ((gtent l (i : Int)).2)) (ys := ((gtent l (i : Int)).2)) (hF.tmp 148 rfl) (hF.tmp 153 rfl) ((TrieA.byte hX (gtent_mem (xs := l) (j := i) (by omega))).2.1) ((TrieA.byte hX (gtent_mem (xs := l) (j := i) (by omega))).2.1)) ?_; clear hF; intro a hF
                    rw [decide_eq_true rfl] at hF
                    refine l_at hF rfl rfl rfl (x_pickF (hF.tmp 147 rfl) rfl (hF.tmp 154 rfl)) ?_; clear hF; intro a hF
                    refine wpList_nil ?_
                    exact hJr29 _ _  ((((hF.bare.add hF 155 rfl).add hF 14 rfl).add hF 7 rfl).add hF 6 rfl) (hH.sub _ (sub_cons (sub_cons (sub_cons (sub_cons (sub_cons (sub_cons (sub_cons (sub_cons (sub_cons (sub_cons (sub_cons (sub_nil _) 3501 rfl) 3500 rfl) 3499 rfl) 64 rfl) 63 rfl) 62 rfl) 60 rfl) 200 rfl) 100 rfl) 902 rfl) 901 rfl))
                  · have hk119_14 := hc119; try simp only [Bool.or_eq_true, Bool.and_eq_true, Bool.or_eq_false_iff, Bool.and_eq_false_iff, Bool.not_eq_true', Bool.not_eq_false', decide_eq_true_eq, decide_eq_false_iff_not, Bool.not_true, Bool.not_false] at hc119
                    refine wp_exit ?_
                    refine hK31 _ _ ?_
                    refine wp_seq_k fun khK39 hK39 => ?_
                    refine wp_region_lit ?_
                    refine wpList_plain rfl fun K hK => ?_
                    refine w_call hF (x_enter Try.func12 (by kernel_rfl) rfl (by simp only [List.map_toArray, List.map_cons, List.map_nil] <;> rfl)) (talive_calls _) rfl rfl ?_
                    rintro _ w ⟨rfl, hm_⟩; refine ⟨_, rfl, ?_⟩; clear hF; intro a hF; have hH := hH.same hm_
                    refine hK _ _ ?_; clear hK K
                    refine l_at hF rfl rfl rfl (x_move (hF.tmp 156 rfl)) ?_; clear hF; intro a hF
                    refine l_atg hF ((wanted_of hF rfl rfl rfl rfl).trans rfl) rfl rfl (x_move (hF.tmp 6 rfl)) ?_; clear hF; intro a hF
                    refine wpList_on ((wanted_of hF rfl rfl rfl rfl).trans rfl) fun K hK => ?_
                    refine w_call hF (x_enter Try.func19 (by kernel_rfl) rfl (by simp only [List.map_toArray, List.map_cons, List.map_nil, hF.tmp 158 rfl] <;> rfl)) (nodes_calls _ hq6_1 (hH.okX 200 rfl)) rfl rfl ?_
                    rintro _ w ⟨rfl, hm_⟩; refine ⟨_, rfl, ?_⟩; clear hF; intro a hF; have hH := hH.same hm_
                    refine hK _ _ ?_; clear hK K
                    refine l_atg hF ((wanted_of hF rfl rfl rfl rfl).trans rfl) rfl rfl (x_eql (hF.tmp 159 rfl) rfl) ?_; clear hF; intro a hF
                    rw [decide_eq_true (show ((nodesL (l.drop i) : Nat) : Int) = 1 by rw [List.drop_of_length_le (by omega)]; rfl)] at hF
                    refine l_at hF rfl rfl rfl (x_pickT (hF.tmp 157 rfl) rfl (hF.tmp 160 rfl)) ?_; clear hF; intro a hF
                    refine l_at hF rfl rfl rfl (x_move (hF.tmp 161 rfl)) ?_; clear hF; intro a hF
                    refine l_atg hF ((wanted_of hF rfl rfl rfl rfl).trans rfl) rfl rfl (x_move (hF.tmp 6 rfl)) ?_; clear hF; intro a hF
                    refine wpList_on ((wanted_of hF rfl rfl rfl rfl).trans rfl) fun K hK => ?_
                    refine w_call hF (x_enter Try.func13 (by kernel_rfl) rfl (by simp only [List.map_toArray, List.map_cons, List.map_nil, hF.tmp 163 rfl] <;> rfl)) (len_calls _ hq6_1 (hH.okX 200 rfl)) rfl rfl ?_
                    rintro _ w ⟨rfl, hm_⟩; refine ⟨_, rfl, ?_⟩; clear hF; intro a hF; have hH := hH.same hm_
                    refine hK _ _ ?_; clear hK K
                    refine l_atg hF ((wanted_of hF rfl rfl rfl rfl).trans rfl) rfl rfl (x_eql (hF.tmp 164 rfl) rfl) ?_; clear hF; intro a hF
                    rw [decide_eq_true (show ((l.drop i).length : Int) = 0 by rw [List.length_drop]; omega)] at hF
                    refine l_at hF rfl rfl rfl (x_pickT (hF.tmp 162 rfl) rfl (hF.tmp 165 rfl)) ?_; clear hF; intro a hF
                    refine l_at hF rfl rfl rfl (x_assign (hF.tmp 166 rfl)) ?_; clear hF; intro a hF
                    refine wpList_nil ?_
                    refine hK39 _ _ ?_
                    refine wp_ret ?_
                    try simp only [Exit.then, Exit.inBlock]
                    exact fin_ret hF (res1 (v := .bool true) hF rfl rfl) ⟨rfl, hH.mods⟩

end Go.Proofs.Ytlcnoibjhmflnaa.Act
