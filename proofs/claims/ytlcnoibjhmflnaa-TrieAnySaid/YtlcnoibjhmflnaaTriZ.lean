/- The great sort. -/
import Derived.Test.YtlcnoibjhmflnaaSrz
import Derived.Test.YtlcnoibjhmflnaaTriX
import Derived.Test.YtlcnoibjhmflnaaTriQ
import Derived.Test.YtlcnoibjhmflnaaTriI
import Derived.Test.YtlcnoibjhmflnaaTriH
set_option linter.unusedVariables false
set_option linter.unusedSimpArgs false
namespace Go.Proofs.Ytlcnoibjhmflnaa.Act
open Go.RowKit Go.Proofs.Ytlcnoibjhmflnaa.Sx Go.Sort Go.Proofs.Ytlcnoibjhmflnaa.Cod
theorem part2_calls (w0 : World) {v : Value} {d : Array Int} (h : Row RB 5 w0 (fun _ => False) v d.toList) {la lb pv : Nat} (hap : la ≤ pv) (hpb : pv < lb) (hb : lb ≤ d.size) (hsz : d.size < 1000000000) : Calls Try.prog 53 #[v, .int .i64 (la : Int), .int .i64 (lb : Int), .int .i64 (pv : Int)] w0 fun e w' => ∃ mid ap d4, e = .returned (.tuple #[.int .i64 ((mid : Nat) : Int), .bool ap]) ∧ Mods (fun k => v.ownBlock = some k) w0 w' ∧ Row RB 5 w' (fun _ => False) v (d4 : Array Int).toList ∧ Go.Sort.partition ltInt d la lb pv = (mid, ap, d4) :=
  Calls.mono (part_calls w0 h hap hpb hb hsz) fun e w' ⟨h1, h2, h3⟩ => ⟨_, _, _, h1, h2, h3, rfl⟩

theorem parteq2_calls (w0 : World) {v : Value} {d : Array Int} (h : Row RB 5 w0 (fun _ => False) v d.toList) {la lb pv : Nat} (hap : la ≤ pv) (hpb : pv < lb) (hb : lb ≤ d.size) (hsz : d.size < 1000000000) : Calls Try.prog 52 #[v, .int .i64 (la : Int), .int .i64 (lb : Int), .int .i64 (pv : Int)] w0 fun e w' => ∃ mid d4, e = .returned (.int .i64 ((mid : Nat) : Int)) ∧ Mods (fun k => v.ownBlock = some k) w0 w' ∧ Row RB 5 w' (fun _ => False) v (d4 : Array Int).toList ∧ partitionEqual ltInt d la lb pv = (mid, d4) :=
  Calls.mono (parteq_calls w0 h hap hpb hb hsz) fun e w' ⟨h1, h2, h3⟩ => ⟨_, _, h1, h2, h3, rfl⟩

set_option maxRecDepth 100000 in
set_option maxHeartbeats 1000000 in
theorem pdq_all : ∀ (n : Nat) (w0 : World) (v : Value) (d : Array Int) (la lb lim : Nat), lb - la < n → Row RB 5 w0 (fun _ => False) v d.toList → la ≤ lb → lb ≤ d.size → d.size < 1000000000 → lim ≤ 400 → Go.Sort.Below ltInt la lb d → Calls Try.prog 43 #[v, .int .i64 (la : Int), .int .i64 (lb : Int), .int .i64 (lim : Int)] w0 fun e w' => ∃ d' : Array Int, e = .returned (.tuple #[]) ∧ Mods (fun k => v.ownBlock = some k) w0 w' ∧ Row RB 5 w' (fun _ => False) v d'.toList ∧ PermIn la lb d d' ∧ SortedIn ltInt la lb d' := by
  intro n
  induction n with
  | zero => intros; omega
  | succ n ih =>
    intro w0 v d la lb lim hn h hab hb hsz hl hbl
    refine calls_of_wp Try.func43 rfl ?_
    have hF := Fr.enter #[v, .int .i64 (la : Int), .int .i64 (lb : Int), .int .i64 (lim : Int)] 134 (slotsOf [v, .int .i64 (la : Int), .int .i64 (lb : Int), .int .i64 (lim : Int)] 0) (Nat.le_of_ble_eq_true rfl) (fun i v h => by have h2 := (get_slotsOf _ 0 i v h).2; simpa only [List.getElem?_toArray, Nat.sub_zero] using h2)
    rw [Try.ntmps43]
    revert hF; generalize (⟨(#[v, .int .i64 (la : Int), .int .i64 (lb : Int), .int .i64 (lim : Int)] : Array Value) ++ Array.replicate (134 - (#[v, .int .i64 (la : Int), .int .i64 (lb : Int), .int .i64 (lim : Int)] : Array Value).size) undef, []⟩ : Act) = a; intro hF
    have hH := Hp.ownrow 900 h (fun _ h => h.elim) (fun _ _ h => h)
    have hdl : d.toList.length = d.size := by simp
    refine wp_seq_k fun khK1 hK1 => ?_
    refine wp_region_lit ?_
    refine l_at hF rfl rfl rfl (x_assign rfl) ?_; clear hF; intro a hF
    refine wpList_nil ?_
    refine hK1 _ _ ?_
    refine wp_seq_k fun khK2 hK2 => ?_
    refine wp_region_lit ?_
    refine l_at hF rfl rfl rfl (x_assign rfl) ?_; clear hF; intro a hF
    refine wpList_nil ?_
    refine hK2 _ _ ?_
    refine wp_block ?_
    refine wp_loop_ghost (fun n_ a w => ∃ a1 : Nat, ∃ b1 : Nat, ∃ lm : Nat, ∃ dk : Array Int, ∃ wb : Bool, ∃ wp : Bool, n_ = b1 - a1 ∧ (a1 ≤ b1) ∧ (b1 ≤ lb) ∧ (la ≤ a1) ∧ (dk.size = d.size) ∧ (Go.Sort.Below ltInt a1 b1 dk) ∧ (lm ≤ 400) ∧ (∀ R, PermIn a1 b1 dk R → SortedIn ltInt a1 b1 R → PermIn la lb d R ∧ SortedIn ltInt la lb R) ∧ Fr 134 a [(0, v), (1, .int .i64 (a1 : Int)), (2, .int .i64 (b1 : Int)), (3, .int .i64 (lm : Int)), (8, .bool wb), (9, .bool wp)] ∧ Hp (fun k => v.ownBlock = some k) w0 w [(900, .row RB 5 v dk.toList (fun _ => False))]) (lb - la) ?_ ?_
    · exact ⟨la, lb, lim, d, _, _, rfl, by omega, by omega, by omega, rfl, hbl, by omega, fun R h1 h2 => ⟨h1, h2⟩, ((((((hF.bare.add hF 9 rfl).add hF 8 rfl).add hF 3 rfl).add hF 2 rfl).add hF 1 rfl).add hF 0 rfl), hH.sub _ (sub_cons (sub_nil _) 900 rfl)⟩
    · rintro _ a w ⟨a1, b1, lm, dk, wb, wp, rfl, hq0_0, hq0_1, hq0_2, hq0_3, hq0_4, hq0_5, hq0_6, hF, hH⟩
      have hl_dk : dk.toList.length = d.size := by simp only [Array.length_toList]; omega
      refine wp_block ?_
      refine wp_seq_k fun khK3 hK3 => ?_
      refine wp_region_lit ?_
      refine l_at hF rfl rfl rfl (x_move (hF.tmp 2 rfl)) ?_; clear hF; intro a hF
      refine l_at hF rfl rfl rfl (x_move (hF.tmp 1 rfl)) ?_; clear hF; intro a hF
      refine l_at hF rfl rfl rfl (x_sub (hF.tmp 19 rfl) (hF.tmp 20 rfl) (show IntKind.i64.wrap _ = ((b1 - a1 : Nat) : Int) from by rw [w64 (by omega) (by omega)] <;> omega)) ?_; clear hF; intro a hF
      refine l_at hF rfl rfl rfl (x_assign (hF.tmp 21 rfl)) ?_; clear hF; intro a hF
      refine wpList_nil ?_
      refine hK3 _ _ ?_
      refine wp_seq_k fun khK4 hK4 => ?_
      refine wp_seq_k fun khK5 hK5 => ?_
      refine wp_region_lit ?_
      refine l_at hF rfl rfl rfl (x_move (hF.tmp 10 rfl)) ?_; clear hF; intro a hF
      refine l_at hF rfl rfl rfl (x_leq (hF.tmp 22 rfl) rfl) ?_; clear hF; intro a hF
      refine wpList_nil ?_
      refine hK5 _ _ ?_
      refine wp_cond_split (hF.tmp 23 rfl) (fun hc23 => ?_) (fun hc23 => ?_)
      · have hk23_1 := hc23; try simp only [Bool.or_eq_true, Bool.and_eq_true, Bool.or_eq_false_iff, Bool.and_eq_false_iff, Bool.not_eq_true', Bool.not_eq_false', decide_eq_true_eq, decide_eq_false_iff_not, Bool.not_true, Bool.not_false] at hc23
        refine wp_seq_k fun khK6 hK6 => ?_
        refine wp_region_lit ?_
        refine l_at hF rfl rfl rfl (x_move (hF.tmp 0 rfl)) ?_; clear hF; intro a hF
        refine l_at hF rfl rfl rfl (x_move (hF.tmp 1 rfl)) ?_; clear hF; intro a hF
        refine l_at hF rfl rfl rfl (x_move (hF.tmp 2 rfl)) ?_; clear hF; intro a hF
        refine wpList_plain rfl fun K hK => ?_
        refine w_call hF (x_enter Try.func45 (by kernel_rfl) rfl (by simp only [List.map_toArray, List.map_cons, List.map_nil, hF.tmp 24 rfl, hF.tmp 25 rfl, hF.tmp 26 rfl] <;> rfl)) (inssort_calls _ (hH.row 900 rfl) (by omega) (by omega) (by omega)) rfl rfl ?_
        rintro _ w ⟨rfl, hm_, hr_⟩; refine ⟨_, rfl, ?_⟩; clear hF; intro a hF; have hH := hH.rowSame 900 rfl hm_ hr_ rfl
        refine hK _ _ ?_; clear hK K
        refine wpList_nil ?_
        refine hK6 _ _ ?_
        refine wp_ret ?_
        try simp only [Exit.then, Exit.inBlock]
        have hi := insertionSort_holds (lt := ltInt) swo_ltInt dk a1 b1 (by omega) (by omega)
        exact fin_ret hF (res0 rfl) ⟨_, rfl, hH.mods, hH.row 900 rfl, hq0_6 _ hi.1 hi.2⟩
      · have hk23_2 := hc23; try simp only [Bool.or_eq_true, Bool.and_eq_true, Bool.or_eq_false_iff, Bool.and_eq_false_iff, Bool.not_eq_true', Bool.not_eq_false', decide_eq_true_eq, decide_eq_false_iff_not, Bool.not_true, Bool.not_false] at hc23
        refine wp_skip ?_
        refine hK4 _ _ ?_
        refine wp_seq_k fun khK7 hK7 => ?_
        refine wp_seq_k fun khK8 hK8 => ?_
        refine wp_region_lit ?_
        refine l_at hF rfl rfl rfl (x_move (hF.tmp 3 rfl)) ?_; clear hF; intro a hF
        refine l_at hF rfl rfl rfl (x_eql (hF.tmp 28 rfl) rfl) ?_; clear hF; intro a hF
        refine wpList_nil ?_
        refine hK8 _ _ ?_
        refine wp_cond_split (hF.tmp 29 rfl) (fun hc29 => ?_) (fun hc29 => ?_)
        · have hk29_3 := hc29; try simp only [Bool.or_eq_true, Bool.and_eq_true, Bool.or_eq_false_iff, Bool.and_eq_false_iff, Bool.not_eq_true', Bool.not_eq_false', decide_eq_true_eq, decide_eq_false_iff_not, Bool.not_true, Bool.not_false] at hc29
          refine wp_seq_k fun khK9 hK9 => ?_
          refine wp_region_lit ?_
          refine l_at hF rfl rfl rfl (x_move (hF.tmp 0 rfl)) ?_; clear hF; intro a hF
          refine l_at hF rfl rfl rfl (x_move (hF.tmp 1 rfl)) ?_; clear hF; intro a hF
          refine l_at hF rfl rfl rfl (x_move (hF.tmp 2 rfl)) ?_; clear hF; intro a hF
          refine wpList_plain rfl fun K hK => ?_
          refine w_call hF (x_enter Try.func46 (by kernel_rfl) rfl (by simp only [List.map_toArray, List.map_cons, List.map_nil, hF.tmp 30 rfl, hF.tmp 31 rfl, hF.tmp 32 rfl] <;> rfl)) (heap_calls _ (hH.row 900 rfl) (by omega) (by omega) (by omega)) rfl rfl ?_
          rintro _ w ⟨rfl, hm_, hr_⟩; refine ⟨_, rfl, ?_⟩; clear hF; intro a hF; have hH := hH.rowSame 900 rfl hm_ hr_ rfl
          refine hK _ _ ?_; clear hK K
          refine wpList_nil ?_
          refine hK9 _ _ ?_
          refine wp_ret ?_
          try simp only [Exit.then, Exit.inBlock]
          have hi := heapSort_holds (lt := ltInt) swo_ltInt dk a1 b1 (by omega) (by omega)
          exact fin_ret hF (res0 rfl) ⟨_, rfl, hH.mods, hH.row 900 rfl, hq0_6 _ hi.1 hi.2⟩
        · have hk29_4 := hc29; try simp only [Bool.or_eq_true, Bool.and_eq_true, Bool.or_eq_false_iff, Bool.and_eq_false_iff, Bool.not_eq_true', Bool.not_eq_false', decide_eq_true_eq, decide_eq_false_iff_not, Bool.not_true, Bool.not_false] at hc29
          refine wp_skip ?_
          refine hK7 _ _ ?_
          refine wp_seq_k fun khK10 hK10 => ?_
          refine wp_seq_k fun khK11 hK11 => ?_
          refine wp_region_lit ?_
          refine l_at hF rfl rfl rfl (x_move (hF.tmp 8 rfl)) ?_; clear hF; intro a hF
          refine l_at hF rfl rfl rfl (x_not (hF.tmp 34 rfl)) ?_; clear hF; intro a hF
          refine wpList_nil ?_
          refine hK11 _ _ ?_
          have hJ35 : ∀ a w, ∀ d1 : Array Int, ∀ lq : Nat, (d1.size = d.size) → (PermIn a1 b1 dk d1) → (lq ≤ 400) → Fr 134 a [(0, v), (1, .int .i64 (a1 : Int)), (2, .int .i64 (b1 : Int)), (3, .int .i64 (lq : Int)), (8, .bool wb), (9, .bool wp), (10, .int .i64 ((b1 - a1 : Nat) : Int))] → Hp (fun k => v.ownBlock = some k) w0 w [(900, .row RB 5 v d1.toList (fun _ => False))] → khK10 a w := by
            intro a w d1 lq hj35_0 hj35_1 hj35_2 hF hH
            refine hK10 a w ?_
            have hl_d1 : d1.toList.length = d.size := by simp only [Array.length_toList]; omega
            refine wp_seq_k fun khK12 hK12 => ?_
            refine wp_region_lit ?_
            refine l_at hF rfl rfl rfl (x_move (hF.tmp 0 rfl)) ?_; clear hF; intro a hF
            refine l_at hF rfl rfl rfl (x_move (hF.tmp 1 rfl)) ?_; clear hF; intro a hF
            refine l_at hF rfl rfl rfl (x_move (hF.tmp 2 rfl)) ?_; clear hF; intro a hF
            refine wpList_plain rfl fun K hK => ?_
            refine w_call hF (x_enter Try.func48 (by kernel_rfl) rfl (by simp only [List.map_toArray, List.map_cons, List.map_nil, hF.tmp 43 rfl, hF.tmp 44 rfl, hF.tmp 45 rfl] <;> rfl)) (pivot_calls _ (hH.row 900 rfl) (by omega) (by omega) (by omega)) rfl rfl ?_
            rintro _ w ⟨pp, hv, rfl, hp1, hp2, hm_⟩; refine ⟨_, rfl, ?_⟩; clear hF; intro a hF; have hH := hH.same hm_
            refine hK _ _ ?_; clear hK K
            refine l_at hF rfl rfl rfl (x_move (hF.tmp 46 rfl)) ?_; clear hF; intro a hF
            refine l_at hF rfl rfl rfl (x_extract (hF.tmp 42 rfl) rfl) ?_; clear hF; intro a hF
            refine l_at hF rfl rfl rfl (x_extract (hF.tmp 42 rfl) rfl) ?_; clear hF; intro a hF
            refine l_at hF rfl rfl rfl (x_assign (hF.tmp 47 rfl)) ?_; clear hF; intro a hF
            refine l_at hF rfl rfl rfl (x_assign (hF.tmp 48 rfl)) ?_; clear hF; intro a hF
            refine wpList_nil ?_
            refine hK12 _ _ ?_
            refine wp_seq_k fun khK13 hK13 => ?_
            refine wp_seq_k fun khK14 hK14 => ?_
            refine wp_region_lit ?_
            refine l_at hF rfl rfl rfl (x_move (hF.tmp 12 rfl)) ?_; clear hF; intro a hF
            refine l_at hF rfl rfl rfl (x_eql (hF.tmp 49 rfl) rfl) ?_; clear hF; intro a hF
            refine wpList_nil ?_
            refine hK14 _ _ ?_
            have hJ50 : ∀ a w, ∀ d2 : Array Int, ∀ pv : Nat, ∀ hv2 : Int, (d2.size = d.size) → (PermIn a1 b1 dk d2) → (a1 ≤ pv) → (pv < b1) → Fr 134 a [(0, v), (1, .int .i64 (a1 : Int)), (2, .int .i64 (b1 : Int)), (3, .int .i64 (lq : Int)), (8, .bool wb), (9, .bool wp), (10, .int .i64 ((b1 - a1 : Nat) : Int)), (11, .int .i64 (pv : Int)), (12, .int .i64 hv2)] → Hp (fun k => v.ownBlock = some k) w0 w [(900, .row RB 5 v d2.toList (fun _ => False))] → khK13 a w := by
              intro a w d2 pv hv2 hj50_0 hj50_1 hj50_2 hj50_3 hF hH
              refine hK13 a w ?_
              have hl_d2 : d2.toList.length = d.size := by simp only [Array.length_toList]; omega
              refine wp_seq_k fun khK15 hK15 => ?_
              refine wp_seq_k fun khK16 hK16 => ?_
              have hJr15 : ∀ a w, ∀ c15 : Bool, Fr 134 a [(0, v), (1, .int .i64 (a1 : Int)), (2, .int .i64 (b1 : Int)), (3, .int .i64 (lq : Int)), (8, .bool wb), (9, .bool wp), (10, .int .i64 ((b1 - a1 : Nat) : Int)), (11, .int .i64 (pv : Int)), (68, .bool c15)] → Hp (fun k => v.ownBlock = some k) w0 w [(900, .row RB 5 v d2.toList (fun _ => False))] → khK16 a w := by
                intro a w c15 hF hH
                refine hK16 a w ?_
                have hJ68 : ∀ a w, ∀ d3 : Array Int, (d3.size = d.size) → (PermIn a1 b1 dk d3) → Fr 134 a [(0, v), (1, .int .i64 (a1 : Int)), (2, .int .i64 (b1 : Int)), (3, .int .i64 (lq : Int)), (8, .bool wb), (9, .bool wp), (10, .int .i64 ((b1 - a1 : Nat) : Int)), (11, .int .i64 (pv : Int))] → Hp (fun k => v.ownBlock = some k) w0 w [(900, .row RB 5 v d3.toList (fun _ => False))] → khK15 a w := by
                  intro a w d3 hj68_0 hj68_1 hF hH
                  refine hK15 a w ?_
                  have hl_d3 : d3.toList.length = d.size := by simp only [Array.length_toList]; omega
                  have hB3 : Go.Sort.Below ltInt a1 b1 d3 := hq0_4.perm (by omega) hj68_1
                  refine wp_seq_k fun khK17 hK17 => ?_
                  refine wp_seq_k fun khK18 hK18 => ?_
                  have hJr17 : ∀ a w, ∀ c17 : Bool, (c17 = (decide (0 < a1) && !ltInt d3[a1 - 1]! d3[pv]!)) → Fr 134 a [(0, v), (1, .int .i64 (a1 : Int)), (2, .int .i64 (b1 : Int)), (3, .int .i64 (lq : Int)), (8, .bool wb), (9, .bool wp), (10, .int .i64 ((b1 - a1 : Nat) : Int)), (11, .int .i64 (pv : Int)), (87, .bool c17)] → Hp (fun k => v.ownBlock = some k) w0 w [(900, .row RB 5 v d3.toList (fun _ => False))] → khK18 a w := by
                    intro a w c17 hjr17_0 hF hH
                    refine hK18 a w ?_
                    refine wp_cond_split (hF.tmp 87 rfl) (fun hc87 => ?_) (fun hc87 => ?_)
                    · have hk87_5 := hc87; try simp only [Bool.or_eq_true, Bool.and_eq_true, Bool.or_eq_false_iff, Bool.and_eq_false_iff, Bool.not_eq_true', Bool.not_eq_false', decide_eq_true_eq, decide_eq_false_iff_not, Bool.not_true, Bool.not_false] at hc87
                      have hs87 := sc_of hjr17_0 hc87
                      refine wp_seq_k fun khK19 hK19 => ?_
                      refine wp_region_lit ?_
                      refine l_at hF rfl rfl rfl (x_move (hF.tmp 0 rfl)) ?_; clear hF; intro a hF
                      refine l_at hF rfl rfl rfl (x_move (hF.tmp 1 rfl)) ?_; clear hF; intro a hF
                      refine l_at hF rfl rfl rfl (x_move (hF.tmp 2 rfl)) ?_; clear hF; intro a hF
                      refine l_at hF rfl rfl rfl (x_move (hF.tmp 11 rfl)) ?_; clear hF; intro a hF
                      refine wpList_plain rfl fun K hK => ?_
                      refine w_call hF (x_enter Try.func52 (by kernel_rfl) rfl (by simp only [List.map_toArray, List.map_cons, List.map_nil, hF.tmp 88 rfl, hF.tmp 89 rfl, hF.tmp 90 rfl, hF.tmp 91 rfl] <;> rfl)) (parteq2_calls _ (hH.row 900 rfl) (by omega) (by omega) (by omega) (by omega)) rfl rfl ?_
                      rintro _ w ⟨me, de, rfl, hm_, hr_, hx_⟩; refine ⟨_, rfl, ?_⟩; clear hF; intro a hF; have hH := hH.rowSame 900 rfl hm_ hr_ rfl
                      refine hK _ _ ?_; clear hK K
                      refine l_at hF rfl rfl rfl (x_assign (hF.tmp 92 rfl)) ?_; clear hF; intro a hF
                      obtain ⟨he1, he2, he3, he4, he5⟩ := round_eq swo_ltInt (partitionEqual_holds ltInt) hs87.1 hj50_2 hj50_3 (by omega) hB3 (by simpa using hs87.2) hx_
                      refine wpList_nil ?_
                      refine hK19 _ _ ?_
                      refine wp_seq_k fun khK20 hK20 => ?_
                      refine wp_region_lit ?_
                      refine l_at hF rfl rfl rfl (x_move (hF.tmp 13 rfl)) ?_; clear hF; intro a hF
                      refine l_at hF rfl rfl rfl (x_assign (hF.tmp 93 rfl)) ?_; clear hF; intro a hF
                      refine wpList_nil ?_
                      refine hK20 _ _ ?_
                      refine wp_exit ?_
                      exact ⟨_, by omega, ⟨me, b1, lq, de, _, _, rfl, by omega, by omega, by omega, (by omega), he4, by omega, fun R h1 h2 => (let ⟨q1, q2⟩ := he5 R h1 h2; hq0_6 R (permIn_trans _ _ _ _ _ hj68_1 q1) q2), ((((((hF.bare.add hF 9 rfl).add hF 8 rfl).add hF 3 rfl).add hF 2 rfl).add hF 1 rfl).add hF 0 rfl), hH.sub _ (sub_cons (sub_nil _) 900 rfl)⟩⟩
                    · have hk87_6 := hc87; try simp only [Bool.or_eq_true, Bool.and_eq_true, Bool.or_eq_false_iff, Bool.and_eq_false_iff, Bool.not_eq_true', Bool.not_eq_false', decide_eq_true_eq, decide_eq_false_iff_not, Bool.not_true, Bool.not_false] at hc87
                      refine wp_skip ?_
                      refine hK17 _ _ ?_
                      refine wp_seq_k fun khK21 hK21 => ?_
                      refine wp_region_lit ?_
                      refine l_at hF rfl rfl rfl (x_move (hF.tmp 0 rfl)) ?_; clear hF; intro a hF
                      refine l_at hF rfl rfl rfl (x_move (hF.tmp 1 rfl)) ?_; clear hF; intro a hF
                      refine l_at hF rfl rfl rfl (x_move (hF.tmp 2 rfl)) ?_; clear hF; intro a hF
                      refine l_at hF rfl rfl rfl (x_move (hF.tmp 11 rfl)) ?_; clear hF; intro a hF
                      refine wpList_plain rfl fun K hK => ?_
                      refine w_call hF (x_enter Try.func53 (by kernel_rfl) rfl (by simp only [List.map_toArray, List.map_cons, List.map_nil, hF.tmp 95 rfl, hF.tmp 96 rfl, hF.tmp 97 rfl, hF.tmp 98 rfl] <;> rfl)) (part2_calls _ (hH.row 900 rfl) (by omega) (by omega) (by omega) (by omega)) rfl rfl ?_
                      rintro _ w ⟨mid, ap, d4, rfl, hm_, hr_, hx_⟩; refine ⟨_, rfl, ?_⟩; clear hF; intro a hF; have hH := hH.rowSame 900 rfl hm_ hr_ rfl
                      refine hK _ _ ?_; clear hK K
                      refine l_at hF rfl rfl rfl (x_move (hF.tmp 99 rfl)) ?_; clear hF; intro a hF
                      obtain ⟨hr1, hr2, hr3, hrA, hrB, hrL, hrR⟩ := round_part swo_ltInt (partition_holds ltInt) hj50_2 hj50_3 (by omega) hB3 hx_
                      have hl_d4 : d4.toList.length = d.size := by simp only [Array.length_toList]; omega
                      refine l_at hF rfl rfl rfl (x_extract (hF.tmp 94 rfl) rfl) ?_; clear hF; intro a hF
                      refine l_at hF rfl rfl rfl (x_extract (hF.tmp 94 rfl) rfl) ?_; clear hF; intro a hF
                      refine l_at hF rfl rfl rfl (x_assign (hF.tmp 100 rfl)) ?_; clear hF; intro a hF
                      refine l_at hF rfl rfl rfl (x_assign (hF.tmp 101 rfl)) ?_; clear hF; intro a hF
                      refine wpList_nil ?_
                      refine hK21 _ _ ?_
                      refine wp_seq_k fun khK22 hK22 => ?_
                      refine wp_region_lit ?_
                      refine l_at hF rfl rfl rfl (x_move (hF.tmp 15 rfl)) ?_; clear hF; intro a hF
                      refine l_at hF rfl rfl rfl (x_assign (hF.tmp 102 rfl)) ?_; clear hF; intro a hF
                      refine wpList_nil ?_
                      refine hK22 _ _ ?_
                      refine wp_seq_k fun khK23 hK23 => ?_
                      refine wp_region_lit ?_
                      refine l_at hF rfl rfl rfl (x_move (hF.tmp 14 rfl)) ?_; clear hF; intro a hF
                      refine l_at hF rfl rfl rfl (x_move (hF.tmp 1 rfl)) ?_; clear hF; intro a hF
                      refine l_at hF rfl rfl rfl (x_sub (hF.tmp 103 rfl) (hF.tmp 104 rfl) (show IntKind.i64.wrap _ = ((mid - a1 : Nat) : Int) from by rw [w64 (by omega) (by omega)] <;> omega)) ?_; clear hF; intro a hF
                      refine l_at hF rfl rfl rfl (x_move (hF.tmp 2 rfl)) ?_; clear hF; intro a hF
                      refine l_at hF rfl rfl rfl (x_move (hF.tmp 14 rfl)) ?_; clear hF; intro a hF
                      refine l_at hF rfl rfl rfl (x_sub (hF.tmp 106 rfl) (hF.tmp 107 rfl) (show IntKind.i64.wrap _ = ((b1 - mid : Nat) : Int) from by rw [w64 (by omega) (by omega)] <;> omega)) ?_; clear hF; intro a hF
                      refine l_at hF rfl rfl rfl (x_assign (hF.tmp 105 rfl)) ?_; clear hF; intro a hF
                      refine l_at hF rfl rfl rfl (x_assign (hF.tmp 108 rfl)) ?_; clear hF; intro a hF
                      refine wpList_nil ?_
                      refine hK23 _ _ ?_
                      refine wp_seq_k fun khK24 hK24 => ?_
                      refine wp_region_lit ?_
                      refine l_at hF rfl rfl rfl (x_move (hF.tmp 10 rfl)) ?_; clear hF; intro a hF
                      refine l_at hF rfl rfl rfl (x_quo (hF.tmp 109 rfl) rfl (by omega) (show IntKind.i64.wrap _ = (((b1 - a1) / 8 : Nat) : Int) from quoN (b1 - a1) 8 (by decide) (by omega) (by decide))) ?_; clear hF; intro a hF
                      refine l_at hF rfl rfl rfl (x_assign (hF.tmp 110 rfl)) ?_; clear hF; intro a hF
                      refine wpList_nil ?_
                      refine hK24 _ _ ?_
                      refine wp_seq_k fun khK25 hK25 => ?_
                      refine wp_region_lit ?_
                      refine l_at hF rfl rfl rfl (x_move (hF.tmp 16 rfl)) ?_; clear hF; intro a hF
                      refine l_at hF rfl rfl rfl (x_move (hF.tmp 17 rfl)) ?_; clear hF; intro a hF
                      refine l_at hF rfl rfl rfl (x_lss (hF.tmp 111 rfl) (hF.tmp 112 rfl)) ?_; clear hF; intro a hF
                      refine wpList_nil ?_
                      refine hK25 _ _ ?_
                      refine wp_cond_split (hF.tmp 113 rfl) (fun hc113 => ?_) (fun hc113 => ?_)
                      · have hk113_7 := hc113; try simp only [Bool.or_eq_true, Bool.and_eq_true, Bool.or_eq_false_iff, Bool.and_eq_false_iff, Bool.not_eq_true', Bool.not_eq_false', decide_eq_true_eq, decide_eq_false_iff_not, Bool.not_true, Bool.not_false] at hc113
                        refine wp_seq_k fun khK26 hK26 => ?_
                        refine wp_region_lit ?_
                        refine l_at hF rfl rfl rfl (x_move (hF.tmp 16 rfl)) ?_; clear hF; intro a hF
                        refine l_at hF rfl rfl rfl (x_move (hF.tmp 18 rfl)) ?_; clear hF; intro a hF
                        refine l_at hF rfl rfl rfl (x_geq (hF.tmp 114 rfl) (hF.tmp 115 rfl)) ?_; clear hF; intro a hF
                        refine l_at hF rfl rfl rfl (x_assign (hF.tmp 116 rfl)) ?_; clear hF; intro a hF
                        refine wpList_nil ?_
                        refine hK26 _ _ ?_
                        refine wp_seq_k fun khK27 hK27 => ?_
                        refine wp_region_lit ?_
                        refine l_at hF rfl rfl rfl (x_move (hF.tmp 0 rfl)) ?_; clear hF; intro a hF
                        refine l_at hF rfl rfl rfl (x_move (hF.tmp 1 rfl)) ?_; clear hF; intro a hF
                        refine l_at hF rfl rfl rfl (x_move (hF.tmp 14 rfl)) ?_; clear hF; intro a hF
                        refine l_at hF rfl rfl rfl (x_move (hF.tmp 3 rfl)) ?_; clear hF; intro a hF
                        refine wpList_plain rfl fun K hK => ?_
                        refine w_call hF (x_enter Try.func43 (by kernel_rfl) rfl (by simp only [List.map_toArray, List.map_cons, List.map_nil, hF.tmp 117 rfl, hF.tmp 118 rfl, hF.tmp 119 rfl, hF.tmp 120 rfl] <;> rfl)) (ih _ v d4 a1 mid lq (by omega) (hH.row 900 rfl) (by omega) (by omega) (by omega) (by omega) hrA) rfl rfl ?_
                        rintro _ w ⟨dL, rfl, hm_, hr_, hpL, hsL⟩; refine ⟨_, rfl, ?_⟩; clear hF; intro a hF; have hH := hH.rowSame 900 rfl hm_ hr_ rfl
                        refine hK _ _ ?_; clear hK K
                        refine wpList_nil ?_
                        refine hK27 _ _ ?_
                        refine wp_region_lit ?_
                        refine l_at hF rfl rfl rfl (x_move (hF.tmp 14 rfl)) ?_; clear hF; intro a hF
                        refine l_at hF rfl rfl rfl (x_add (hF.tmp 122 rfl) rfl (show IntKind.i64.wrap _ = ((mid + 1 : Nat) : Int) from by rw [w64 (by omega) (by omega)] <;> omega)) ?_; clear hF; intro a hF
                        refine l_at hF rfl rfl rfl (x_assign (hF.tmp 123 rfl)) ?_; clear hF; intro a hF
                        refine wpList_nil ?_
                        exact ⟨_, by omega, ⟨mid + 1, b1, lq, dL, _, _, rfl, by omega, by omega, by omega, (by have := hpL.1; omega), (hrL dL hpL hsL).1, by omega, fun R h1 h2 => (let ⟨q1, q2⟩ := (hrL dL hpL hsL).2 R h1 h2; hq0_6 R (permIn_trans _ _ _ _ _ hj68_1 q1) q2), ((((((hF.bare.add hF 9 rfl).add hF 8 rfl).add hF 3 rfl).add hF 2 rfl).add hF 1 rfl).add hF 0 rfl), hH.sub _ (sub_cons (sub_nil _) 900 rfl)⟩⟩
                      · have hk113_8 := hc113; try simp only [Bool.or_eq_true, Bool.and_eq_true, Bool.or_eq_false_iff, Bool.and_eq_false_iff, Bool.not_eq_true', Bool.not_eq_false', decide_eq_true_eq, decide_eq_false_iff_not, Bool.not_true, Bool.not_false] at hc113
                        refine wp_seq_k fun khK28 hK28 => ?_
                        refine wp_region_lit ?_
                        refine l_at hF rfl rfl rfl (x_move (hF.tmp 17 rfl)) ?_; clear hF; intro a hF
                        refine l_at hF rfl rfl rfl (x_move (hF.tmp 18 rfl)) ?_; clear hF; intro a hF
                        refine l_at hF rfl rfl rfl (x_geq (hF.tmp 124 rfl) (hF.tmp 125 rfl)) ?_; clear hF; intro a hF
                        refine l_at hF rfl rfl rfl (x_assign (hF.tmp 126 rfl)) ?_; clear hF; intro a hF
                        refine wpList_nil ?_
                        refine hK28 _ _ ?_
                        refine wp_seq_k fun khK29 hK29 => ?_
                        refine wp_region_lit ?_
                        refine l_at hF rfl rfl rfl (x_move (hF.tmp 0 rfl)) ?_; clear hF; intro a hF
                        refine l_at hF rfl rfl rfl (x_move (hF.tmp 14 rfl)) ?_; clear hF; intro a hF
                        refine l_at hF rfl rfl rfl (x_add (hF.tmp 128 rfl) rfl (show IntKind.i64.wrap _ = ((mid + 1 : Nat) : Int) from by rw [w64 (by omega) (by omega)] <;> omega)) ?_; clear hF; intro a hF
                        refine l_at hF rfl rfl rfl (x_move (hF.tmp 2 rfl)) ?_; clear hF; intro a hF
                        refine l_at hF rfl rfl rfl (x_move (hF.tmp 3 rfl)) ?_; clear hF; intro a hF
                        refine wpList_plain rfl fun K hK => ?_
                        refine w_call hF (x_enter Try.func43 (by kernel_rfl) rfl (by simp only [List.map_toArray, List.map_cons, List.map_nil, hF.tmp 127 rfl, hF.tmp 129 rfl, hF.tmp 130 rfl, hF.tmp 131 rfl] <;> rfl)) (ih _ v d4 (mid + 1) b1 lq (by omega) (hH.row 900 rfl) (by omega) (by omega) (by omega) (by omega) hrB) rfl rfl ?_
                        rintro _ w ⟨dL, rfl, hm_, hr_, hpL, hsL⟩; refine ⟨_, rfl, ?_⟩; clear hF; intro a hF; have hH := hH.rowSame 900 rfl hm_ hr_ rfl
                        refine hK _ _ ?_; clear hK K
                        refine wpList_nil ?_
                        refine hK29 _ _ ?_
                        refine wp_region_lit ?_
                        refine l_at hF rfl rfl rfl (x_move (hF.tmp 14 rfl)) ?_; clear hF; intro a hF
                        refine l_at hF rfl rfl rfl (x_assign (hF.tmp 133 rfl)) ?_; clear hF; intro a hF
                        refine wpList_nil ?_
                        exact ⟨_, by omega, ⟨a1, mid, lq, dL, _, _, rfl, by omega, by omega, by omega, (by have := hpL.1; omega), (hrR dL hpL hsL).1, by omega, fun R h1 h2 => (let ⟨q1, q2⟩ := (hrR dL hpL hsL).2 R h1 h2; hq0_6 R (permIn_trans _ _ _ _ _ hj68_1 q1) q2), ((((((hF.bare.add hF 9 rfl).add hF 8 rfl).add hF 3 rfl).add hF 2 rfl).add hF 1 rfl).add hF 0 rfl), hH.sub _ (sub_cons (sub_nil _) 900 rfl)⟩⟩
                  refine r_start [(900, .row RB 5 v d3.toList (fun _ => False))] (by kernel_rfl) hH fun hH => ?_
                  have hS : SL [(900, .row RB 5 v d3.toList (fun _ => False))] _ := SL.of hH (sub_cons (sub_nil _) 900 rfl)
                  refine r_take 0 hF rfl rfl rfl (by kernel_rfl) (by kernel_rfl) (by kernel_rfl) (fun _ _ _ h => h) rfl hS (fun w hS => x_move (hF.tmp 1 rfl)) rfl ?_; clear hF; intro a hF
                  refine r_take 1 hF rfl rfl rfl (by kernel_rfl) (by kernel_rfl) (by kernel_rfl) (fun _ _ _ h => h) rfl hS (fun w hS => x_gtr (hF.tmp 73 rfl) rfl) rfl ?_; clear hF; intro a hF
                  refine r_take 2 hF rfl rfl rfl (by kernel_rfl) (by kernel_rfl) (by kernel_rfl) (fun _ _ _ h => h) rfl hS (fun w hS => x_move (hF.tmp 74 rfl)) rfl ?_; clear hF; intro a hF
                  refine split_bool hF 75 rfl (fun hb75 => ?_) (fun hb75 => ?_)
                  · have hc75 := hb75; try simp only [Bool.or_eq_true, Bool.and_eq_true, Bool.or_eq_false_iff, Bool.and_eq_false_iff, Bool.not_eq_true', Bool.not_eq_false', decide_eq_true_eq, decide_eq_false_iff_not, Bool.not_true, Bool.not_false] at hc75
                    refine r_take 3 hF rfl rfl rfl (by kernel_rfl) (by kernel_rfl) (by kernel_rfl) (fun _ _ _ h => h) ((wanted_of hF rfl rfl rfl rfl).trans (by rw [hb75]; rfl)) hS (fun w hS => x_move (hF.tmp 0 rfl)) rfl ?_; clear hF; intro a hF
                    refine r_take 4 hF rfl rfl rfl (by kernel_rfl) (by kernel_rfl) (by kernel_rfl) (fun _ _ _ h => h) ((wanted_of hF rfl rfl rfl rfl).trans (by rw [hb75]; rfl)) hS (fun w hS => x_move (hF.tmp 1 rfl)) rfl ?_; clear hF; intro a hF
                    refine r_take 5 hF rfl rfl rfl (by kernel_rfl) (by kernel_rfl) (by kernel_rfl) (fun _ _ _ h => h) ((wanted_of hF rfl rfl rfl rfl).trans (by rw [hb75]; rfl)) hS (fun w hS => x_sub (hF.tmp 77 rfl) rfl (show IntKind.i64.wrap _ = ((a1 - 1 : Nat) : Int) from by rw [w64 (by omega) (by omega)] <;> omega)) rfl ?_; clear hF; intro a hF
                    refine r_take 6 hF rfl rfl rfl (by kernel_rfl) (by kernel_rfl) (by kernel_rfl) (fun _ _ _ h => h) ((wanted_of hF rfl rfl rfl rfl).trans (by rw [hb75]; rfl)) hS (fun w hS => x_iaddrV Try.underlying72 ty5 (hH.row 900 rfl) (hF.tmp 76 rfl) (hF.tmp 78 rfl) (by omega) (by omega) _) rfl ?_; clear hF; intro a hF
                    refine r_take 7 hF rfl rfl rfl (by kernel_rfl) (by kernel_rfl) (by kernel_rfl) (fun _ _ _ h => h) ((wanted_of hF rfl rfl rfl rfl).trans (by rw [hb75]; rfl)) hS (fun w hS => x_load1 ty5 (hF.tmp 79 rfl) ((Row.rdV (SL.row hS 900 rfl)).cellA (gi_some (xs := d3.toList) (i := ((a1 - 1 : Nat) : Int)) (by omega) (by omega)))) rfl ?_; clear hF; intro a hF
                    refine r_take 8 hF rfl rfl rfl (by kernel_rfl) (by kernel_rfl) (by kernel_rfl) (fun _ _ _ h => h) ((wanted_of hF rfl rfl rfl rfl).trans (by rw [hb75]; rfl)) hS (fun w hS => x_move (hF.tmp 0 rfl)) rfl ?_; clear hF; intro a hF
                    refine r_take 9 hF rfl rfl rfl (by kernel_rfl) (by kernel_rfl) (by kernel_rfl) (fun _ _ _ h => h) ((wanted_of hF rfl rfl rfl rfl).trans (by rw [hb75]; rfl)) hS (fun w hS => x_move (hF.tmp 11 rfl)) rfl ?_; clear hF; intro a hF
                    refine r_take 10 hF rfl rfl rfl (by kernel_rfl) (by kernel_rfl) (by kernel_rfl) (fun _ _ _ h => h) ((wanted_of hF rfl rfl rfl rfl).trans (by rw [hb75]; rfl)) hS (fun w hS => x_iaddrV Try.underlying72 ty5 (hH.row 900 rfl) (hF.tmp 81 rfl) (hF.tmp 82 rfl) (by omega) (by omega) _) rfl ?_; clear hF; intro a hF
                    refine r_take 11 hF rfl rfl rfl (by kernel_rfl) (by kernel_rfl) (by kernel_rfl) (fun _ _ _ h => h) ((wanted_of hF rfl rfl rfl rfl).trans (by rw [hb75]; rfl)) hS (fun w hS => x_load1 ty5 (hF.tmp 83 rfl) ((Row.rdV (SL.row hS 900 rfl)).cellA (gi_some (xs := d3.toList) (i := (pv : Int)) (by omega) (by omega)))) rfl ?_; clear hF; intro a hF
                    refine r_do 12 rfl (by kernel_rfl) ((wanted_of hF rfl rfl rfl rfl).trans (by rw [hb75]; rfl)) rfl ?_
                    refine w_call hF (x_enter Try.func51 (by kernel_rfl) rfl (by simp only [List.map_toArray, List.map_cons, List.map_nil, hF.tmp 80 rfl, hF.tmp 84 rfl] <;> rfl)) (less_calls _ _ _) rfl rfl ?_
                    rintro _ w ⟨rfl, hm_⟩; refine ⟨_, rfl, ?_⟩; clear hF; intro a hF; have hH := hH.same hm_
                    clear hS; have hS : SL _ _ := SL.of hH (sub_cons (sub_nil _) 900 rfl); refine ⟨hS, ?_⟩
                    refine r_take 13 hF rfl rfl rfl (by kernel_rfl) (by kernel_rfl) (by kernel_rfl) (fun _ _ _ h => h) ((wanted_of hF rfl rfl rfl rfl).trans (by rw [hb75]; rfl)) hS (fun w hS => x_not (hF.tmp 85 rfl)) rfl ?_; clear hF; intro a hF
                    refine r_take 14 hF rfl rfl rfl (by kernel_rfl) (by kernel_rfl) (by kernel_rfl) (fun _ _ _ h => h) rfl hS (fun w hS => x_pickT (hF.tmp 75 rfl) hb75 (hF.tmp 86 rfl)) rfl ?_; clear hF; intro a hF
                    refine r_end (by kernel_rfl) ?_; clear hS
                    exact hJr17 _ _ (!(decide ((gi d3.toList ((a1 - 1 : Nat) : Int)) < (gi d3.toList (pv : Int))))) (by first | exact sc_f (by omega) | exact sc_t (by omega) (lt_g _ _ _) | exact sc_t (by omega) (nlt_g _ _ _)) (((((((((hF.bare.add hF 87 rfl).add hF 11 rfl).add hF 10 rfl).add hF 9 rfl).add hF 8 rfl).add hF 3 rfl).add hF 2 rfl).add hF 1 rfl).add hF 0 rfl) (hH.sub _ (sub_cons (sub_nil _) 900 rfl))
                  · have hc75 := hb75; try simp only [Bool.or_eq_true, Bool.and_eq_true, Bool.or_eq_false_iff, Bool.and_eq_false_iff, Bool.not_eq_true', Bool.not_eq_false', decide_eq_true_eq, decide_eq_false_iff_not, Bool.not_true, Bool.not_false] at hc75
                    refine r_off 3 hF rfl rfl rfl (by kernel_rfl) (by kernel_rfl) (by kernel_rfl) (fun _ _ _ h => h) ((wanted_of hF rfl rfl rfl rfl).trans (by rw [hb75]; rfl)) hS rfl ?_; clear hF; intro a hF
                    refine r_off 4 hF rfl rfl rfl (by kernel_rfl) (by kernel_rfl) (by kernel_rfl) (fun _ _ _ h => h) ((wanted_of hF rfl rfl rfl rfl).trans (by rw [hb75]; rfl)) hS rfl ?_; clear hF; intro a hF
                    refine r_off 5 hF rfl rfl rfl (by kernel_rfl) (by kernel_rfl) (by kernel_rfl) (fun _ _ _ h => h) ((wanted_of hF rfl rfl rfl rfl).trans (by rw [hb75]; rfl)) hS rfl ?_; clear hF; intro a hF
                    refine r_off 6 hF rfl rfl rfl (by kernel_rfl) (by kernel_rfl) (by kernel_rfl) (fun _ _ _ h => h) ((wanted_of hF rfl rfl rfl rfl).trans (by rw [hb75]; rfl)) hS rfl ?_; clear hF; intro a hF
                    refine r_off 7 hF rfl rfl rfl (by kernel_rfl) (by kernel_rfl) (by kernel_rfl) (fun _ _ _ h => h) ((wanted_of hF rfl rfl rfl rfl).trans (by rw [hb75]; rfl)) hS rfl ?_; clear hF; intro a hF
                    refine r_off 8 hF rfl rfl rfl (by kernel_rfl) (by kernel_rfl) (by kernel_rfl) (fun _ _ _ h => h) ((wanted_of hF rfl rfl rfl rfl).trans (by rw [hb75]; rfl)) hS rfl ?_; clear hF; intro a hF
                    refine r_off 9 hF rfl rfl rfl (by kernel_rfl) (by kernel_rfl) (by kernel_rfl) (fun _ _ _ h => h) ((wanted_of hF rfl rfl rfl rfl).trans (by rw [hb75]; rfl)) hS rfl ?_; clear hF; intro a hF
                    refine r_off 10 hF rfl rfl rfl (by kernel_rfl) (by kernel_rfl) (by kernel_rfl) (fun _ _ _ h => h) ((wanted_of hF rfl rfl rfl rfl).trans (by rw [hb75]; rfl)) hS rfl ?_; clear hF; intro a hF
                    refine r_off 11 hF rfl rfl rfl (by kernel_rfl) (by kernel_rfl) (by kernel_rfl) (fun _ _ _ h => h) ((wanted_of hF rfl rfl rfl rfl).trans (by rw [hb75]; rfl)) hS rfl ?_; clear hF; intro a hF
                    refine r_off 12 hF rfl rfl rfl (by kernel_rfl) (by kernel_rfl) (by kernel_rfl) (fun _ _ _ h => h) ((wanted_of hF rfl rfl rfl rfl).trans (by rw [hb75]; rfl)) hS rfl ?_; clear hF; intro a hF
                    refine r_off 13 hF rfl rfl rfl (by kernel_rfl) (by kernel_rfl) (by kernel_rfl) (fun _ _ _ h => h) ((wanted_of hF rfl rfl rfl rfl).trans (by rw [hb75]; rfl)) hS rfl ?_; clear hF; intro a hF
                    refine r_take 14 hF rfl rfl rfl (by kernel_rfl) (by kernel_rfl) (by kernel_rfl) (fun _ _ _ h => h) rfl hS (fun w hS => x_pickF (hF.tmp 75 rfl) hb75 rfl) rfl ?_; clear hF; intro a hF
                    refine r_end (by kernel_rfl) ?_; clear hS
                    exact hJr17 _ _ false (by first | exact sc_f (by omega) | exact sc_t (by omega) (lt_g _ _ _) | exact sc_t (by omega) (nlt_g _ _ _)) (((((((((hF.bare.add hF 87 rfl).add hF 11 rfl).add hF 10 rfl).add hF 9 rfl).add hF 8 rfl).add hF 3 rfl).add hF 2 rfl).add hF 1 rfl).add hF 0 rfl) (hH.sub _ (sub_cons (sub_nil _) 900 rfl))
                refine wp_cond_split (hF.tmp 68 rfl) (fun hc68 => ?_) (fun hc68 => ?_)
                · have hk68_9 := hc68; try simp only [Bool.or_eq_true, Bool.and_eq_true, Bool.or_eq_false_iff, Bool.and_eq_false_iff, Bool.not_eq_true', Bool.not_eq_false', decide_eq_true_eq, decide_eq_false_iff_not, Bool.not_true, Bool.not_false] at hc68
                  have hip := partialInsertionSort_holds (lt := ltInt) swo_ltInt d2 a1 b1 (by omega) (by omega) (hq0_4.perm (by omega) hj50_1)
                  refine wp_seq_k fun khK30 hK30 => ?_
                  refine wp_region_lit ?_
                  refine l_at hF rfl rfl rfl (x_move (hF.tmp 0 rfl)) ?_; clear hF; intro a hF
                  refine l_at hF rfl rfl rfl (x_move (hF.tmp 1 rfl)) ?_; clear hF; intro a hF
                  refine l_at hF rfl rfl rfl (x_move (hF.tmp 2 rfl)) ?_; clear hF; intro a hF
                  refine wpList_plain rfl fun K hK => ?_
                  refine w_call hF (x_enter Try.func50 (by kernel_rfl) rfl (by simp only [List.map_toArray, List.map_cons, List.map_nil, hF.tmp 69 rfl, hF.tmp 70 rfl, hF.tmp 71 rfl] <;> rfl)) (pins_calls _ (hH.row 900 rfl) (by omega) (by omega) (by omega)) rfl rfl ?_
                  rintro _ w ⟨rfl, hm_, hr_⟩; refine ⟨_, rfl, ?_⟩; clear hF; intro a hF; have hH := hH.rowSame 900 rfl hm_ hr_ rfl
                  refine hK _ _ ?_; clear hK K
                  refine wpList_nil ?_
                  refine hK30 _ _ ?_
                  refine wp_cond_split (hF.tmp 72 rfl) (fun hc72 => ?_) (fun hc72 => ?_)
                  · have hk72_10 := hc72; try simp only [Bool.or_eq_true, Bool.and_eq_true, Bool.or_eq_false_iff, Bool.and_eq_false_iff, Bool.not_eq_true', Bool.not_eq_false', decide_eq_true_eq, decide_eq_false_iff_not, Bool.not_true, Bool.not_false] at hc72
                    refine wp_ret ?_
                    try simp only [Exit.then, Exit.inBlock]
                    have hi := And.intro (permIn_trans _ _ _ _ _ hj50_1 hip.1) (hip.2 hc72)
                    exact fin_ret hF (res0 rfl) ⟨_, rfl, hH.mods, hH.row 900 rfl, hq0_6 _ hi.1 hi.2⟩
                  · have hk72_11 := hc72; try simp only [Bool.or_eq_true, Bool.and_eq_true, Bool.or_eq_false_iff, Bool.and_eq_false_iff, Bool.not_eq_true', Bool.not_eq_false', decide_eq_true_eq, decide_eq_false_iff_not, Bool.not_true, Bool.not_false] at hc72
                    refine wp_skip ?_
                    exact hJ68 _ _ (partialInsertionSort ltInt d2 a1 b1).1 (hip.1.1.trans hj50_0) (permIn_trans _ _ _ _ _ hj50_1 hip.1) ((((((((hF.bare.add hF 11 rfl).add hF 10 rfl).add hF 9 rfl).add hF 8 rfl).add hF 3 rfl).add hF 2 rfl).add hF 1 rfl).add hF 0 rfl) (hH.sub _ (sub_cons (sub_nil _) 900 rfl))
                · have hk68_12 := hc68; try simp only [Bool.or_eq_true, Bool.and_eq_true, Bool.or_eq_false_iff, Bool.and_eq_false_iff, Bool.not_eq_true', Bool.not_eq_false', decide_eq_true_eq, decide_eq_false_iff_not, Bool.not_true, Bool.not_false] at hc68
                  refine wp_skip ?_
                  exact hJ68 _ _ d2 hj50_0 hj50_1 ((((((((hF.bare.add hF 11 rfl).add hF 10 rfl).add hF 9 rfl).add hF 8 rfl).add hF 3 rfl).add hF 2 rfl).add hF 1 rfl).add hF 0 rfl) (hH.sub _ (sub_cons (sub_nil _) 900 rfl))
              refine wp_region_lit ?_
              refine l_at hF rfl rfl rfl (x_move (hF.tmp 8 rfl)) ?_; clear hF; intro a hF
              refine l_at hF rfl rfl rfl (x_move (hF.tmp 61 rfl)) ?_; clear hF; intro a hF
              refine split_bool hF 62 rfl (fun hb62 => ?_) (fun hb62 => ?_)
              · have hc62 := hb62; try simp only [Bool.or_eq_true, Bool.and_eq_true, Bool.or_eq_false_iff, Bool.and_eq_false_iff, Bool.not_eq_true', Bool.not_eq_false', decide_eq_true_eq, decide_eq_false_iff_not, Bool.not_true, Bool.not_false] at hc62
                refine l_atg hF ((wanted_of hF rfl rfl rfl rfl).trans (by rw [hb62]; rfl)) rfl rfl (x_move (hF.tmp 9 rfl)) ?_; clear hF; intro a hF
                refine l_at hF rfl rfl rfl (x_pickT (hF.tmp 62 rfl) hb62 (hF.tmp 63 rfl)) ?_; clear hF; intro a hF
                refine l_at hF rfl rfl rfl (x_move (hF.tmp 64 rfl)) ?_; clear hF; intro a hF
                refine split_bool hF 65 rfl (fun hb65 => ?_) (fun hb65 => ?_)
                · have hc65 := hb65; try simp only [Bool.or_eq_true, Bool.and_eq_true, Bool.or_eq_false_iff, Bool.and_eq_false_iff, Bool.not_eq_true', Bool.not_eq_false', decide_eq_true_eq, decide_eq_false_iff_not, Bool.not_true, Bool.not_false] at hc65
                  refine l_atg hF ((wanted_of hF rfl rfl rfl rfl).trans (by rw [hb65]; rfl)) rfl rfl (x_move (hF.tmp 12 rfl)) ?_; clear hF; intro a hF
                  refine l_atg hF ((wanted_of hF rfl rfl rfl rfl).trans (by rw [hb65]; rfl)) rfl rfl (x_eql (hF.tmp 66 rfl) rfl) ?_; clear hF; intro a hF
                  refine l_at hF rfl rfl rfl (x_pickT (hF.tmp 65 rfl) hb65 (hF.tmp 67 rfl)) ?_; clear hF; intro a hF
                  refine wpList_nil ?_
                  exact hJr15 _ _ (decide (hv2 = 1)) (((((((((hF.bare.add hF 68 rfl).add hF 11 rfl).add hF 10 rfl).add hF 9 rfl).add hF 8 rfl).add hF 3 rfl).add hF 2 rfl).add hF 1 rfl).add hF 0 rfl) (hH.sub _ (sub_cons (sub_nil _) 900 rfl))
                · have hc65 := hb65; try simp only [Bool.or_eq_true, Bool.and_eq_true, Bool.or_eq_false_iff, Bool.and_eq_false_iff, Bool.not_eq_true', Bool.not_eq_false', decide_eq_true_eq, decide_eq_false_iff_not, Bool.not_true, Bool.not_false] at hc65
                  refine l_offg hF ((wanted_of hF rfl rfl rfl rfl).trans (by rw [hb65]; rfl)) rfl rfl ?_; clear hF; intro a hF
                  refine l_offg hF ((wanted_of hF rfl rfl rfl rfl).trans (by rw [hb65]; rfl)) rfl rfl ?_; clear hF; intro a hF
                  refine l_at hF rfl rfl rfl (x_pickF (hF.tmp 65 rfl) hb65 rfl) ?_; clear hF; intro a hF
                  refine wpList_nil ?_
                  exact hJr15 _ _ false (((((((((hF.bare.add hF 68 rfl).add hF 11 rfl).add hF 10 rfl).add hF 9 rfl).add hF 8 rfl).add hF 3 rfl).add hF 2 rfl).add hF 1 rfl).add hF 0 rfl) (hH.sub _ (sub_cons (sub_nil _) 900 rfl))
              · have hc62 := hb62; try simp only [Bool.or_eq_true, Bool.and_eq_true, Bool.or_eq_false_iff, Bool.and_eq_false_iff, Bool.not_eq_true', Bool.not_eq_false', decide_eq_true_eq, decide_eq_false_iff_not, Bool.not_true, Bool.not_false] at hc62
                refine l_offg hF ((wanted_of hF rfl rfl rfl rfl).trans (by rw [hb62]; rfl)) rfl rfl ?_; clear hF; intro a hF
                refine l_at hF rfl rfl rfl (x_pickF (hF.tmp 62 rfl) hb62 rfl) ?_; clear hF; intro a hF
                refine l_at hF rfl rfl rfl (x_move (hF.tmp 64 rfl)) ?_; clear hF; intro a hF
                refine l_offg hF ((wanted_of hF rfl rfl rfl rfl).trans rfl) rfl rfl ?_; clear hF; intro a hF
                refine l_offg hF ((wanted_of hF rfl rfl rfl rfl).trans rfl) rfl rfl ?_; clear hF; intro a hF
                refine l_at hF rfl rfl rfl (x_pickF (hF.tmp 65 rfl) rfl rfl) ?_; clear hF; intro a hF
                refine wpList_nil ?_
                exact hJr15 _ _ false (((((((((hF.bare.add hF 68 rfl).add hF 11 rfl).add hF 10 rfl).add hF 9 rfl).add hF 8 rfl).add hF 3 rfl).add hF 2 rfl).add hF 1 rfl).add hF 0 rfl) (hH.sub _ (sub_cons (sub_nil _) 900 rfl))
            refine wp_cond_split (hF.tmp 50 rfl) (fun hc50 => ?_) (fun hc50 => ?_)
            · have hk50_13 := hc50; try simp only [Bool.or_eq_true, Bool.and_eq_true, Bool.or_eq_false_iff, Bool.and_eq_false_iff, Bool.not_eq_true', Bool.not_eq_false', decide_eq_true_eq, decide_eq_false_iff_not, Bool.not_true, Bool.not_false] at hc50
              refine wp_seq_k fun khK31 hK31 => ?_
              refine wp_region_lit ?_
              refine l_at hF rfl rfl rfl (x_move (hF.tmp 0 rfl)) ?_; clear hF; intro a hF
              refine l_at hF rfl rfl rfl (x_move (hF.tmp 1 rfl)) ?_; clear hF; intro a hF
              refine l_at hF rfl rfl rfl (x_move (hF.tmp 2 rfl)) ?_; clear hF; intro a hF
              refine wpList_plain rfl fun K hK => ?_
              refine w_call hF (x_enter Try.func49 (by kernel_rfl) rfl (by simp only [List.map_toArray, List.map_cons, List.map_nil, hF.tmp 51 rfl, hF.tmp 52 rfl, hF.tmp 53 rfl] <;> rfl)) (rev_calls _ (hH.row 900 rfl) (by omega) (by omega) (by omega)) rfl rfl ?_
              rintro _ w ⟨dr, rfl, hm_, hr_, hpr_⟩; refine ⟨_, rfl, ?_⟩; clear hF; intro a hF; have hH := hH.rowSame 900 rfl hm_ hr_ rfl
              refine hK _ _ ?_; clear hK K
              refine wpList_nil ?_
              refine hK31 _ _ ?_
              refine wp_seq_k fun khK32 hK32 => ?_
              refine wp_region_lit ?_
              refine l_at hF rfl rfl rfl (x_move (hF.tmp 2 rfl)) ?_; clear hF; intro a hF
              refine l_at hF rfl rfl rfl (x_sub (hF.tmp 55 rfl) rfl (show IntKind.i64.wrap _ = ((b1 - 1 : Nat) : Int) from by rw [w64 (by omega) (by omega)] <;> omega)) ?_; clear hF; intro a hF
              refine l_at hF rfl rfl rfl (x_move (hF.tmp 11 rfl)) ?_; clear hF; intro a hF
              refine l_at hF rfl rfl rfl (x_move (hF.tmp 1 rfl)) ?_; clear hF; intro a hF
              refine l_at hF rfl rfl rfl (x_sub (hF.tmp 57 rfl) (hF.tmp 58 rfl) (show IntKind.i64.wrap _ = ((pp - a1 : Nat) : Int) from by rw [w64 (by omega) (by omega)] <;> omega)) ?_; clear hF; intro a hF
              refine l_at hF rfl rfl rfl (x_sub (hF.tmp 56 rfl) (hF.tmp 59 rfl) (show IntKind.i64.wrap _ = (((b1 - 1) - (pp - a1) : Nat) : Int) from by rw [w64 (by omega) (by omega)] <;> omega)) ?_; clear hF; intro a hF
              refine l_at hF rfl rfl rfl (x_assign (hF.tmp 60 rfl)) ?_; clear hF; intro a hF
              refine wpList_nil ?_
              refine hK32 _ _ ?_
              refine wp_region_lit ?_
              refine l_at hF rfl rfl rfl (x_assign rfl) ?_; clear hF; intro a hF
              refine wpList_nil ?_
              exact hJ50 _ _ dr (b1 - 1 - (pp - a1)) 1 (by have := hpr_.1; omega) (permIn_trans _ _ _ _ _ hj35_1 hpr_) (by omega) (by omega) (((((((((hF.bare.add hF 12 rfl).add hF 11 rfl).add hF 10 rfl).add hF 9 rfl).add hF 8 rfl).add hF 3 rfl).add hF 2 rfl).add hF 1 rfl).add hF 0 rfl) (hH.sub _ (sub_cons (sub_nil _) 900 rfl))
            · have hk50_14 := hc50; try simp only [Bool.or_eq_true, Bool.and_eq_true, Bool.or_eq_false_iff, Bool.and_eq_false_iff, Bool.not_eq_true', Bool.not_eq_false', decide_eq_true_eq, decide_eq_false_iff_not, Bool.not_true, Bool.not_false] at hc50
              refine wp_skip ?_
              exact hJ50 _ _ d1 pp hv hj35_0 hj35_1 hp1 hp2 (((((((((hF.bare.add hF 12 rfl).add hF 11 rfl).add hF 10 rfl).add hF 9 rfl).add hF 8 rfl).add hF 3 rfl).add hF 2 rfl).add hF 1 rfl).add hF 0 rfl) (hH.sub _ (sub_cons (sub_nil _) 900 rfl))
          refine wp_cond_split (hF.tmp 35 rfl) (fun hc35 => ?_) (fun hc35 => ?_)
          · have hk35_15 := hc35; try simp only [Bool.or_eq_true, Bool.and_eq_true, Bool.or_eq_false_iff, Bool.and_eq_false_iff, Bool.not_eq_true', Bool.not_eq_false', decide_eq_true_eq, decide_eq_false_iff_not, Bool.not_true, Bool.not_false] at hc35
            refine wp_seq_k fun khK33 hK33 => ?_
            refine wp_region_lit ?_
            refine l_at hF rfl rfl rfl (x_move (hF.tmp 0 rfl)) ?_; clear hF; intro a hF
            refine l_at hF rfl rfl rfl (x_move (hF.tmp 1 rfl)) ?_; clear hF; intro a hF
            refine l_at hF rfl rfl rfl (x_move (hF.tmp 2 rfl)) ?_; clear hF; intro a hF
            refine wpList_plain rfl fun K hK => ?_
            refine w_call hF (x_enter Try.func47 (by kernel_rfl) rfl (by simp only [List.map_toArray, List.map_cons, List.map_nil, hF.tmp 36 rfl, hF.tmp 37 rfl, hF.tmp 38 rfl] <;> rfl)) (brk_calls _ (hH.row 900 rfl) (by omega) (by omega) (by omega)) rfl rfl ?_
            rintro _ w ⟨db, rfl, hm_, hr_, hpb_⟩; refine ⟨_, rfl, ?_⟩; clear hF; intro a hF; have hH := hH.rowSame 900 rfl hm_ hr_ rfl
            refine hK _ _ ?_; clear hK K
            refine wpList_nil ?_
            refine hK33 _ _ ?_
            refine wp_region_lit ?_
            refine l_at hF rfl rfl rfl (x_move (hF.tmp 3 rfl)) ?_; clear hF; intro a hF
            refine l_at hF rfl rfl rfl (x_sub (hF.tmp 40 rfl) rfl (show IntKind.i64.wrap _ = ((lm - 1 : Nat) : Int) from by rw [w64 (by omega) (by omega)] <;> omega)) ?_; clear hF; intro a hF
            refine l_at hF rfl rfl rfl (x_assign (hF.tmp 41 rfl)) ?_; clear hF; intro a hF
            refine wpList_nil ?_
            exact hJ35 _ _ db (lm - 1) (by have := hpb_.1; omega) hpb_ (by omega) (((((((hF.bare.add hF 10 rfl).add hF 9 rfl).add hF 8 rfl).add hF 3 rfl).add hF 2 rfl).add hF 1 rfl).add hF 0 rfl) (hH.sub _ (sub_cons (sub_nil _) 900 rfl))
          · have hk35_16 := hc35; try simp only [Bool.or_eq_true, Bool.and_eq_true, Bool.or_eq_false_iff, Bool.and_eq_false_iff, Bool.not_eq_true', Bool.not_eq_false', decide_eq_true_eq, decide_eq_false_iff_not, Bool.not_true, Bool.not_false] at hc35
            refine wp_skip ?_
            exact hJ35 _ _ dk lm hq0_3 (permIn_refl _ _ _) (by omega) (((((((hF.bare.add hF 10 rfl).add hF 9 rfl).add hF 8 rfl).add hF 3 rfl).add hF 2 rfl).add hF 1 rfl).add hF 0 rfl) (hH.sub _ (sub_cons (sub_nil _) 900 rfl))

theorem pdq_calls (w0 : World) {v : Value} {d : Array Int} (h : Row RB 5 w0 (fun _ => False) v d.toList) {la lb lim : Nat} (hab : la ≤ lb) (hb : lb ≤ d.size) (hsz : d.size < 1000000000) (hl : lim ≤ 400) (hbl : Go.Sort.Below ltInt la lb d) : Calls Try.prog 43 #[v, .int .i64 (la : Int), .int .i64 (lb : Int), .int .i64 (lim : Int)] w0 fun e w' => ∃ d' : Array Int, e = .returned (.tuple #[]) ∧ Mods (fun k => v.ownBlock = some k) w0 w' ∧ Row RB 5 w' (fun _ => False) v d'.toList ∧ PermIn la lb d d' ∧ SortedIn ltInt la lb d' := pdq_all (lb - la + 1) w0 v d la lb lim (by omega) h hab hb hsz hl hbl

end Go.Proofs.Ytlcnoibjhmflnaa.Act
