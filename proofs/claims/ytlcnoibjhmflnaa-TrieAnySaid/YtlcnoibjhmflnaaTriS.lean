/- Bytes sorted, walked. -/
import Derived.Test.YtlcnoibjhmflnaaTriZ
set_option linter.unusedVariables false
set_option linter.unusedSimpArgs false
namespace Go.Proofs.Ytlcnoibjhmflnaa.Act
open Go.RowKit Go.Proofs.Ytlcnoibjhmflnaa.Sx Go.Sort Go.Proofs.Ytlcnoibjhmflnaa.Cod
theorem ty72 : TyI Try.prog 72 (.slice none 0 0) 1 24 false := ⟨by kernel_rfl, _, Try.underlying72, rfl⟩
set_option maxRecDepth 100000 in
set_option maxHeartbeats 1000000 in
theorem sort_calls (w0 : World) {v : Value} {d : Array Int} (h : Row RB 5 w0 (fun _ => False) v d.toList) (hk : d.size ≤ kmax) : Calls Try.prog 40 #[v] w0 fun e w' => e = .returned (.tuple #[]) ∧ Mods (fun k => v.ownBlock = some k) w0 w' ∧ Row RB 5 w' (fun _ => False) v (sortB d.toList) := by
  refine calls_of_wp Try.func40 rfl ?_
  have hF := Fr.enter #[v] 11 (slotsOf [v] 0) (Nat.le_of_ble_eq_true rfl) (fun i v h => by have h2 := (get_slotsOf _ 0 i v h).2; simpa only [List.getElem?_toArray, Nat.sub_zero] using h2)
  rw [Try.ntmps40]
  revert hF; generalize (⟨(#[v] : Array Value) ++ Array.replicate (11 - (#[v] : Array Value).size) undef, []⟩ : Act) = a; intro hF
  have hH := Hp.ownrow 900 h (fun _ h => h.elim) (fun _ _ h => h)
  have hdl : d.toList.length = d.size := by simp
  refine wp_seq_k fun khK1 hK1 => ?_
  refine wp_region_lit ?_
  refine l_at hF rfl rfl rfl (x_move (hF.tmp 0 rfl)) ?_; clear hF; intro a hF
  refine l_at hF rfl rfl rfl (x_lenV (A := none) (hH.row 900 rfl) Try.underlying72 (hF.tmp 3 rfl)) ?_; clear hF; intro a hF
  refine l_at hF rfl rfl rfl (x_assign (hF.tmp 4 rfl)) ?_; clear hF; intro a hF
  refine wpList_nil ?_
  refine hK1 _ _ ?_
  refine wp_region_lit ?_
  refine l_at hF rfl rfl rfl (x_move (hF.tmp 0 rfl)) ?_; clear hF; intro a hF
  refine l_at hF rfl rfl rfl (x_move (hF.tmp 2 rfl)) ?_; clear hF; intro a hF
  refine l_at hF rfl rfl rfl (x_move (hF.tmp 2 rfl)) ?_; clear hF; intro a hF
  refine l_at hF rfl rfl rfl (x_conv Try.underlying82 ⟨_, Try.underlying3⟩ (hF.tmp 7 rfl) (wu64 (by omega) (by unfold kmax at hk; omega))) ?_; clear hF; intro a hF
  refine wpList_plain rfl fun K hK => ?_
  refine w_call hF (x_enter Try.func44 (by kernel_rfl) rfl (by simp only [List.map_toArray, List.map_cons, List.map_nil, hF.tmp 8 rfl] <;> rfl)) (blen_calls _ d.toList.length (by unfold kmax at hk; omega)) rfl rfl ?_
  rintro _ w ⟨l, rfl, hl3, hl4, hm_⟩; refine ⟨_, rfl, ?_⟩; clear hF; intro a hF; have hH := hH.same hm_
  refine hK _ _ ?_; clear hK K
  refine wpList_plain rfl fun K hK => ?_
  refine w_call hF (x_enter Try.func43 (by kernel_rfl) rfl (by simp only [List.map_toArray, List.map_cons, List.map_nil, hF.tmp 5 rfl, hF.tmp 6 rfl, hF.tmp 9 rfl] <;> rfl)) (pdq_calls _ (hH.row 900 rfl) (la := 0) (lb := d.toList.length) (Nat.zero_le _) (by omega) (by unfold kmax at hk; omega) hl4 (.inl rfl)) rfl rfl ?_
  rintro _ w ⟨d2, rfl, hm_, hr_, hp_, hs_⟩; refine ⟨_, rfl, ?_⟩; clear hF; intro a hF; have hH := hH.rowSame 900 rfl hm_ hr_ rfl
  refine hK _ _ ?_; clear hK K
  refine wpList_nil ?_
  try simp only [Exit.then, Exit.inBlock]
  try simp only [if_true]
  rw [hdl] at hp_ hs_
  have hres := sorted_sortB d d2 hp_ hs_
  exact fin_end hF (res0 rfl) ⟨rfl, hH.mods, by rw [← hres]; exact hH.row 900 rfl⟩

set_option maxRecDepth 100000 in
set_option maxHeartbeats 1000000 in
theorem keys1_tells (w0 : World) {bb bm : Nat} {m : List (Int × Nat)} (hLI : (Asn.all [(1, .ro (.blk bb (.cells #[.map (some bm)] 60 (0, 0)))), (2, .ro (.map KB NV bm m noB))]).holds w0) : Iterates Try.prog 41 #[.pointer (some ⟨bb, 0, none⟩)] EncB [(1, .ro (.blk bb (.cells #[.map (some bm)] 60 (0, 0)))), (2, .ro (.map KB NV bm m noB))] (fun _ => False) (fun xs => xs.Perm (m.map (·.1))) w0 := by
  intro l JP DN X hX h1 h2 hR0 hJ0
  rw [show (#[.func (.yield l) #[] #[]] ++ #[.pointer (some ⟨bb, 0, none⟩)] : Array Value) = #[.func (.yield l) #[] #[], .pointer (some ⟨bb, 0, none⟩)] from rfl]
  refine calls_of_wp Try.func41 rfl ?_
  have hF := Fr.enter #[.func (.yield l) #[] #[], .pointer (some ⟨bb, 0, none⟩)] 14 (slotsOf [.func (.yield l) #[] #[], .pointer (some ⟨bb, 0, none⟩)] 0) (Nat.le_of_ble_eq_true rfl) (fun i v h => by have h2 := (get_slotsOf _ 0 i v h).2; simpa only [List.getElem?_toArray, Nat.sub_zero] using h2)
  rw [Try.ntmps41]
  revert hF; generalize (⟨(#[.func (.yield l) #[] #[], .pointer (some ⟨bb, 0, none⟩)] : Array Value) ++ Array.replicate (14 - (#[.func (.yield l) #[] #[], .pointer (some ⟨bb, 0, none⟩)] : Array Value).size) undef, []⟩ : Act) = a; intro hF
  have hH := it_start hLI hX h1 h2 777
  have hno0 : ¬ LetsOut (bodyPost Try.prog Try.f41 (fun e w' => ∃ v X' xs, e = .returned v ∧ xs.Perm (m.map (·.1)) ∧ (JP xs X' ∨ ∃ pre, pre <+: xs ∧ DN pre X') ∧ Grew (OwnL [(1, .ro (.blk bb (.cells #[.map (some bm)] 60 (0, 0)))), (2, .ro (.map KB NV bm m noB))]) (fun _ => False) X w0 w' X')) := by rintro ⟨_, _, v, X', xs, h, _⟩; cases h
  refine wp_seq_k fun khK1 hK1 => ?_
  refine wp_region_lit ?_
  refine l_at hF rfl rfl rfl (x_load1 ty60 (hF.tmp 1 rfl) (blk_cell (hH.atro 1 rfl) 0 rfl)) ?_; clear hF; intro a hF
  refine wpList_plain rfl fun K hK => ?_
  refine w_range 5 2 hF hH rfl rfl Try.underlying60 (hF.tmp 4 rfl) ?_
  clear hF hH; intro a w it5 hF hH
  refine hK _ _ ?_; clear hK K
  refine wpList_nil ?_
  refine hK1 _ _ ?_
  refine wp_block ?_
  refine wp_loop_ghost (fun n_ a w => ∃ rest : List (Int × Nat), ∃ pre : List Int, ∃ X_ : Asn, ∃ cur_ : Option ((Int × Nat) × Value), n_ = 0 + rest.length ∧ (JP pre X_) ∧ ((pre ++ rest.map (·.1)).Perm (m.map (·.1))) ∧ (∀ k, X_.rd k → X.own k ∨ X.rd k ∨ (fun _ => False : Nat → Prop) k ∨ w0.heap.size ≤ k) ∧ Fr 14 a [(0, .func (.yield l) #[] #[]), (5, .pointer (some ⟨it5, 0, none⟩))] ∧ Hp (fun k => X.own k ∨ OwnL [(1, .ro (.blk bb (.cells #[.map (some bm)] 60 (0, 0)))), (2, .ro (.map KB NV bm m noB))] k) w0 w [(777, X_), (1, .ro (.blk bb (.cells #[.map (some bm)] 60 (0, 0)))), (2, .ro (.map KB NV bm m noB)), (5, .iter KB NV bm it5 m rest cur_ (fun k => noB k ∧ k ≠ bm))]) (0 + m.length) ?_ ?_
  · exact ⟨m, [], X, none, rfl, hJ0, List.Perm.refl _, fun k h => .inr (.inl h), ((hF.bare.add hF 5 rfl).add hF 0 rfl), hH.sub _ (sub_cons (sub_cons (sub_cons (sub_cons (sub_nil _) 5 rfl) 2 rfl) 1 rfl) 777 rfl)⟩
  · rintro _ a w ⟨rest, pre, X_, cur_, rfl, hq0_0, hq0_1, hq0_2, hF, hH⟩
    refine wp_seq_k fun khK2 hK2 => ?_
    refine wp_region_lit ?_
    refine wpList_plain rfl fun K hK => ?_
    refine w_next 5 hF hH rfl rfl (hF.tmp 5 rfl) (fun a hr0 hF hH => hK _ _ ?_) (fun a w r1 p6 r2 v6 hr1 hF hH => hK _ _ ?_) <;> clear hK K
    ·
      refine l_at hF rfl rfl rfl (x_extract (hF.tmp 6 rfl) rfl) ?_; clear hF; intro a hF
      refine wpList_nil ?_
      refine hK2 _ _ ?_
      refine wp_seq_k fun khK3 hK3 => ?_
      refine wp_cond_false (hF.tmp 7 rfl) ?_
      refine wp_exit ?_
      try simp only [Exit.then, Exit.inBlock]
      try simp only [if_true]
      rw [hr0, List.map_nil, List.append_nil] at hq0_1
      exact fin_end hF (res0 rfl) ⟨_, X_, pre, rfl, hq0_1, .inl hq0_0, (grew_it hH 777 rfl (own_cons (fun k hk => hk.elim) (own_cons (fun k hk => hk.elim) own_nil)) hq0_2)⟩
    ·
      obtain rfl : v6 = ptrV p6.2 := hH.curR 5 rfl
      refine l_at hF rfl rfl rfl (x_extract (hF.tmp 6 rfl) rfl) ?_; clear hF; intro a hF
      refine wpList_nil ?_
      refine hK2 _ _ ?_
      refine wp_seq_k fun khK4 hK4 => ?_
      refine wp_cond_true (hF.tmp 7 rfl) ?_
      refine wp_skip ?_
      refine hK4 _ _ ?_
      refine wp_block ?_
      refine wp_seq_k fun khK5 hK5 => ?_
      refine wp_region_lit ?_
      refine l_at hF rfl rfl rfl (x_entry 5 hH rfl (hF.tmp 5 rfl)) ?_; clear hF; intro a hF
      refine l_at hF rfl rfl rfl (x_extract (hF.tmp 8 rfl) rfl) ?_; clear hF; intro a hF
      refine l_at hF rfl rfl rfl (x_assign (hF.tmp 9 rfl)) ?_; clear hF; intro a hF
      refine wpList_nil ?_
      refine hK5 _ _ ?_
      refine wp_seq_k fun khK6 hK6 => ?_
      refine region_of_in ?_
      refine li_at hF rfl rfl rfl (noDefer_ne rfl) (x_move (hF.tmp 0 rfl)) ?_; clear hF; intro a hF
      refine li_at hF rfl rfl rfl (noDefer_ne rfl) (x_move (hF.tmp 3 rfl)) ?_; clear hF; intro a hF
      have hround := hR0 pre p6.1 X_ w #[.int .u8 p6.1] (fun _ => False) ⟨(pre ++ [p6.1]) ++ (r1 ++ r2).map (·.1), (keysB_step hr1 hq0_1), ⟨_, rfl⟩⟩ hq0_0 (it_ok hH 777 rfl) ⟨rfl, fun _ h => h⟩ (fun k hk => hk.elim)
      refine li_yield hF rfl (hF.tmp 10 rfl) (vs := #[.int .u8 p6.1]) (by simp only [List.map_toArray, List.map_cons, List.map_nil, hF.tmp 11 rfl] <;> rfl) hround ?_; clear hF; intro a w b_ X2 hF hR hG
      have hr2 : ∀ k, X2.rd k → X.own k ∨ X.rd k ∨ (fun _ => False : Nat → Prop) k ∨ w0.heap.size ≤ k := by
        intro k hk; rcases hG.rd k hk with h1 | h1 | h1 | h1
        · exact (it_own hH 777 rfl (own_cons (fun k hk => hk.elim) (own_cons (fun k hk => hk.elim) own_nil)) k h1).imp id (fun h => .inr (.inr h))
        · exact hq0_2 k h1
        · exact h1.elim
        · exact .inr (.inr (.inr (Nat.le_trans hH.mods.size h1)))
      have hH := hH.grew 777 rfl hG (fun k hk => hk.elim)
      cases b_
      ·
        replace hR : DN (pre ++ [p6.1]) X2 := hR
        refine li_rest (by repeat (first | exact hno0 | apply no_then | apply no_block)) rfl ?_
        refine l_at hF rfl rfl rfl (x_not (hF.tmp 12 rfl)) ?_; clear hF; intro a hF
        refine wpList_nil ?_
        refine hK6 _ _ ?_
        refine wp_cond_true (hF.tmp 13 rfl) ?_
        refine wp_ret ?_
        try simp only [Exit.then, Exit.inBlock]
        exact fin_ret hF (res0 rfl) ⟨_, X2, (pre ++ [p6.1]) ++ (r1 ++ r2).map (·.1), rfl, (keysB_step hr1 hq0_1), .inr ⟨pre ++ [p6.1], ⟨_, rfl⟩, hR⟩, (grew_it hH 777 rfl (own_cons (fun k hk => hk.elim) (own_cons (fun k hk => hk.elim) own_nil)) hr2)⟩
      ·
        replace hR : JP (pre ++ [p6.1]) X2 := hR
        refine li_rest (by repeat (first | exact hno0 | apply no_then | apply no_block)) rfl ?_
        refine l_at hF rfl rfl rfl (x_not (hF.tmp 12 rfl)) ?_; clear hF; intro a hF
        refine wpList_nil ?_
        refine hK6 _ _ ?_
        refine wp_cond_false (hF.tmp 13 rfl) ?_
        refine wp_skip ?_
        exact ⟨_, (by rw [hr1]; simp only [List.length_append, List.length_cons]; omega), ⟨r1 ++ r2, pre ++ [p6.1], X2, _, rfl, hR, (keysB_step hr1 hq0_1), hr2, ((hF.bare.add hF 5 rfl).add hF 0 rfl), hH.sub _ (sub_cons (sub_cons (sub_cons (sub_cons (sub_nil _) 5 rfl) 2 rfl) 1 rfl) 777 rfl)⟩⟩

set_option maxRecDepth 100000 in
set_option maxHeartbeats 1000000 in
theorem keys_calls (w0 : World) (bm : Nat) : Calls Try.prog 37 #[.map (some bm)] w0 fun e w' => ∃ b1, e = .returned (.func (.func 41) #[] #[.pointer (some ⟨b1, 0, none⟩)]) ∧ Mods (fun _ => False) w0 w' ∧ w0.heap.size ≤ b1 ∧ w'.heap[b1]? = some (.cells #[.map (some bm)] 60 (0, 0)) := by
  refine calls_of_wp Try.func37 rfl ?_
  have hF := Fr.enter #[.map (some bm)] 4 (slotsOf [.map (some bm)] 0) (Nat.le_of_ble_eq_true rfl) (fun i v h => by have h2 := (get_slotsOf _ 0 i v h).2; simpa only [List.getElem?_toArray, Nat.sub_zero] using h2)
  have hH := Hp.nil (fun _ => False) w0
  rw [Try.ntmps37]
  revert hF; generalize (⟨(#[.map (some bm)] : Array Value) ++ Array.replicate (4 - (#[.map (some bm)] : Array Value).size) undef, []⟩ : Act) = a; intro hF
  refine wp_seq_k fun khK1 hK1 => ?_
  refine wp_region_lit ?_
  refine wpList_plain rfl fun K hK => ?_
  refine w_box 1 hF hH rfl (hF.tmp 0 rfl) ?_
  clear hF hH; intro a w b1 hF hH
  refine hK _ _ ?_; clear hK K
  refine l_at hF rfl rfl rfl (x_assign rfl) ?_; clear hF; intro a hF
  refine wpList_nil ?_
  refine hK1 _ _ ?_
  refine wp_seq_k fun khK2 hK2 => ?_
  refine wp_region_lit ?_
  refine l_at hF rfl rfl rfl (x_mkfunc (vs := #[.pointer (some ⟨b1, 0, none⟩)]) (by simp only [List.map_toArray, List.map_cons, List.map_nil, hF.tmp 1 rfl])) ?_; clear hF; intro a hF
  refine l_at hF rfl rfl rfl (x_assign (hF.tmp 3 rfl)) ?_; clear hF; intro a hF
  refine wpList_nil ?_
  refine hK2 _ _ ?_
  refine wp_ret ?_
  try simp only [Exit.then, Exit.inBlock]
  exact fin_ret hF (res1 hF rfl rfl) ⟨b1, rfl, hH.mods, (hH.mine 1 _ rfl b1 rfl).resolve_left (fun h => h), hH.at 1 rfl⟩

set_option maxRecDepth 100000 in
set_option maxHeartbeats 1000000 in
theorem appseq_calls (w0 : World) {bb bm : Nat} {m : List (Int × Nat)} (hLI : Hp (fun _ => False) w0 w0 [(1, .ro (.blk bb (.cells #[.map (some bm)] 60 (0, 0)))), (2, .ro (.map KB NV bm m noB))]) (hmm : m.length ≤ 900) : Calls Try.prog 42 #[.slice none 0 0, .func (.func 41) #[] #[.pointer (some ⟨bb, 0, none⟩)]] w0 fun e w' => ∃ v xs, e = .returned v ∧ xs.Perm (m.map (·.1)) ∧ Mods (fun _ => False) w0 w' ∧ RowOut RB 5 w0 w' v xs := by
  refine calls_marks Try.func42 rfl ?_
  have hF := Fr.enter #[.slice none 0 0, .func (.func 41) #[] #[.pointer (some ⟨bb, 0, none⟩)]] 13 (slotsOf [.slice none 0 0, .func (.func 41) #[] #[.pointer (some ⟨bb, 0, none⟩)]] 0) (Nat.le_of_ble_eq_true rfl) (fun i v h => by have h2 := (get_slotsOf _ 0 i v h).2; simpa only [List.getElem?_toArray, Nat.sub_zero] using h2)
  rw [Try.ntmps42]
  revert hF; generalize (⟨(#[.slice none 0 0, .func (.func 41) #[] #[.pointer (some ⟨bb, 0, none⟩)]] : Array Value) ++ Array.replicate (13 - (#[.slice none 0 0, .func (.func 41) #[] #[.pointer (some ⟨bb, 0, none⟩)]] : Array Value).size) undef, []⟩ : Act) = a; intro hF
  have hH := hLI
  refine wp_seq_k fun khK1 hK1 => ?_
  refine wp_region_lit ?_
  refine wpList_plain rfl fun K hK => ?_
  refine w_box 22 hF hH rfl (hF.tmp 0 rfl) ?_
  clear hF hH; intro a w b2 hF hH
  refine hK _ _ ?_; clear hK K
  refine l_at hF rfl rfl rfl (x_assign rfl) ?_; clear hF; intro a hF
  refine wpList_nil ?_
  refine hK1 _ _ ?_
  refine wp_seq_k fun khK2 hK2 => ?_
  refine wp_seq_k fun khK3 hK3 => ?_
  refine wp_region_lit ?_
  refine l_at hF rfl rfl rfl (x_move (hF.tmp 1 rfl)) ?_; clear hF; intro a hF
  refine wpList_nil ?_
  refine hK3 _ _ ?_
  refine wp_block ?_
  have hH := hH.row0 55 RB 5
  refine wp_range hF hH 100 101 (hF.tmp 6 rfl) Try.func41 (by kernel_rfl) rfl ?_
  intro r l bk w hr hH0; clear hH
  have hLI2 : (Asn.all [(1, .ro (.blk bb (.cells #[.map (some bm)] 60 (0, 0)))), (2, .ro (.map KB NV bm m noB))]).holds w := (hH0.sub _ (sub_cons (sub_cons (sub_nil _) 2 rfl) 1 rfl)).asAll
  have hFD := hF.defer [{ target := .collected bk, args := #[] }]
  refine Calls.mono (keys1_tells w hLI2 l (fun (pre : List Int) (X : Asn) => ∃ (Av : Option Addr) (cv : Nat), X = Asn.all [(100, .blk l (.loop r)), (22, .blk b2 (.cells #[.slice Av pre.length cv] 72 (0, 0))), (55, .row RB 5 (.slice Av pre.length cv) pre (fun _ => False))]) (fun _ _ => False) (Asn.all [(100, .blk l (.loop r)), (22, .blk b2 (.cells #[.slice none ([] : List Int).length 0] 72 (0, 0))), (55, .row RB 5 (.slice none ([] : List Int).length 0) ([] : List Int) (fun _ => False))]) (hH0.sub _ (sub_cons (sub_cons (sub_cons (sub_nil _) 55 rfl) 22 rfl) 100 rfl)).okAll (hH0.apart (sub_cons (sub_cons (sub_nil _) 2 rfl) 1 rfl) (sub_cons (sub_cons (sub_cons (sub_nil _) 55 rfl) 22 rfl) 100 rfl) (apart_cons rfl (apart_cons rfl (apart_nil _)))) (fun k hk h => hH0.apart (sub_cons (sub_cons (sub_cons (sub_nil _) 55 rfl) 22 rfl) 100 rfl) (sub_cons (sub_cons (sub_nil _) 2 rfl) 1 rfl) (apart_cons rfl (apart_cons rfl (apart_cons rfl (apart_nil _)))) k h (.inr hk)) ?_ ⟨none, 0, rfl⟩) ?_
  ·
    rintro pre x Xx w1 args rdY ⟨xs, hxs, hpre⟩ ⟨Av, cv, rfl⟩ hXok ⟨rfl, hrdY⟩ _
    have hlen : pre.length < 1000 := by have h1 := hpre.length_le; have h2 : xs.length = (m.map (·.1)).length := List.Perm.length_eq hxs; rw [List.length_map] at h2; simp only [List.length_append, List.length_cons, List.length_nil] at h1; omega
    refine round_walk (ll := 100) hXok.holds rfl hr ?_
    have hH := Hp.ofAll hXok.holds
    have hF := hF.round 7 (.int .u8 x) rfl
    generalize ({ tmps := _, defers := [] } : Act) = a at hF ⊢
    have hF : Fr 13 a [(7, .int .u8 x), (2, .pointer (some ⟨b2, 0, none⟩))] := ((hF.bare.add hF 2 rfl).add hF 7 rfl)
    refine region_in (by repeat (first | exact no_round | exact no_false | apply no_then | apply no_block)) rfl ?_
    refine l_at hF rfl rfl rfl (x_assign (hF.tmp 7 rfl)) ?_; clear hF; intro a hF
    refine wpList_nil ?_
    try simp only [Exit.then, Exit.inBlock]
    refine begin_round hH 100 rfl hr.state fun w hH => ?_
    refine wpIn_block ?_
    refine region_in (by repeat (first | exact no_round | exact no_false | apply no_then | apply no_block)) rfl ?_
    refine l_at hF rfl rfl rfl (x_load1 ty72 (hF.tmp 2 rfl) (blk_cell (hH.at 22 rfl) 0 rfl)) ?_; clear hF; intro a hF
    refine l_at hF rfl rfl rfl (x_move (hF.tmp 5 rfl)) ?_; clear hF; intro a hF
    refine wpList_plain rfl fun K hK => ?_
    refine w_lit 10 (enc := Value.int .u8) (h1 := fun _ => rfl) ([x]) hF hH rfl Try.underlying72 ty5 (by simp only [List.map_toArray, List.map_cons, List.map_nil, hF.tmp 9 rfl]; rfl) rfl (by decide) (by decide) (by kernel_rfl) ?_
    clear hF hH; intro a w b10 hF hH
    refine hK _ _ ?_; clear hK K
    refine wpList_plain rfl fun K hK => ?_
    refine w_append 55 10 (xs := pre) (ys := ([x])) hF hH rfl Try.underlying72 ty5 rfl rfl rfl rfl (Row.rd (ok' := fun k_ => (fun _ => False) k_ ∨ (.slice (some ⟨b10, 0, none⟩) ([x]).length ([x]).length : Value).ownBlock = some k_) (hH.row 10 rfl) (fun _ hk_ _ => .inl hk_) (fun _ hk_ => .inr hk_)) (by rintro k_ (hk_ | hk_); exact .inr hk_; exact .inl hk_) (hF.tmp 8 rfl) (hF.tmp 10 rfl) (by simp only [List.length_cons, List.length_nil]; omega) (by simp only [List.length_cons, List.length_nil, maxLen]; omega) (fun _ => False) (fun w' v' h => row_flat h _) (fun k_ hk_ => hk_.elim) ?_
    clear hF hH; intro a w v11 hF hH
    refine hK _ _ ?_; clear hK K
    obtain ⟨A11, c11, rfl⟩ := (hH.row 55 rfl).form
    refine wpList_plain rfl fun K hK => ?_
    refine w_store 22 hH ty72 rfl (hF.tmp 2 rfl) (hF.tmp 11 rfl) rfl (one1 rfl rfl) (by first | decide | exact Nat.le_of_ble_eq_true rfl) ?_
    clear hH; intro w hH
    refine hK _ _ ?_; clear hK K
    refine wpList_nil ?_
    try simp only [Exit.then, Exit.inBlock]
    refine end_next hH 100 rfl hr fun w hH => ?_
    have hh := hH.sub [(100, .blk l (.loop r)), (22, .blk b2 (.cells #[.slice A11 (pre ++ [x]).length c11] 72 (0, 0))), (55, .row RB 5 (.slice A11 (pre ++ [x]).length c11) (pre ++ [x]) (fun _ => False))] (sub_cons (sub_cons (sub_cons (sub_nil _) 55 rfl) 22 rfl) 100 rfl)
    exact ⟨true, _, rfl, ⟨_, _, rfl⟩, grew_of hh (rdin_cons (fun k h => h.elim) (rdin_cons (fun k h => h.elim) (rdin_cons (fun k h => h.elim) rdin_nil)))⟩
  ·
    rintro e w' ⟨v_, X', xs, rfl, hxs, hor, hG⟩
    obtain ⟨Av, cv, rfl⟩ := hor.resolve_right (fun ⟨_, _, h⟩ => h)
    have hH := Hp.back hH0 (sub_cons (sub_cons (sub_cons (sub_nil _) 55 rfl) 22 rfl) 100 rfl) (sub_cons (sub_cons (sub_nil _) 2 rfl) 1 rfl) hG (fun k h => h.elim) [(1, .emp), (2, .emp)] (cover_cons rfl (cover_cons rfl (cover_nil _))) (emps_cons (emps_cons emps_nil)) (cover_cons rfl (cover_cons rfl (cover_cons rfl (cover_nil _)))) (apart_cons rfl (apart_cons rfl (apart_nil _)))
    have hH : Hp _ w0 w' [(101, .blk bk (.deferred (some []))), (100, .blk l (.loop r)), (22, .blk b2 (.cells #[.slice Av xs.length cv] 72 (0, 0))), (55, .row RB 5 (.slice Av xs.length cv) xs (fun _ => False))] := hH.sub _ (sub_cons (sub_cons (sub_cons (sub_cons (sub_nil _) 55 rfl) 22 rfl) 100 rfl) 101 rfl)
    refine range_next hH 100 rfl (by rw [hr.state]; decide) hr.pending fun w hH => ?_
    clear hF; have hF := hFD; revert hF; generalize ({ tmps := a.tmps, defers := [{ target := .collected bk, args := #[] }] } : Act) = a; intro hF
    try simp only [Exit.then, Exit.inBlock]
    refine hK2 _ _ ?_
    refine wp_seq_k fun khK4 hK4 => ?_
    refine wp_region_lit ?_
    refine l_at hF rfl rfl rfl (x_load1 ty72 (hF.tmp 2 rfl) (blk_cell (hH.at 22 rfl) 0 rfl)) ?_; clear hF; intro a hF
    refine l_at hF rfl rfl rfl (x_assign (hF.tmp 12 rfl)) ?_; clear hF; intro a hF
    refine wpList_nil ?_
    refine hK4 _ _ ?_
    refine wp_ret ?_
    try simp only [Exit.then, Exit.inBlock]
    exact fin_retD hF hH 101 rfl fun w hH => ⟨res1 hF rfl rfl, _, xs, rfl, hxs, hH.mods, Hp.out hH 55 rfl⟩

set_option maxRecDepth 100000 in
set_option maxHeartbeats 1000000 in
theorem collect_calls (w0 : World) {bb bm : Nat} {m : List (Int × Nat)} (hLI : Hp (fun _ => False) w0 w0 [(1, .ro (.blk bb (.cells #[.map (some bm)] 60 (0, 0)))), (2, .ro (.map KB NV bm m noB))]) (hmm : m.length ≤ 900) : Calls Try.prog 39 #[.func (.func 41) #[] #[.pointer (some ⟨bb, 0, none⟩)]] w0 fun e w' => ∃ v xs, e = .returned v ∧ xs.Perm (m.map (·.1)) ∧ Mods (fun _ => False) w0 w' ∧ RowOut RB 5 w0 w' v xs := by
  refine calls_of_wp Try.func39 rfl ?_
  have hF := Fr.enter #[.func (.func 41) #[] #[.pointer (some ⟨bb, 0, none⟩)]] 5 (slotsOf [.func (.func 41) #[] #[.pointer (some ⟨bb, 0, none⟩)]] 0) (Nat.le_of_ble_eq_true rfl) (fun i v h => by have h2 := (get_slotsOf _ 0 i v h).2; simpa only [List.getElem?_toArray, Nat.sub_zero] using h2)
  rw [Try.ntmps39]
  revert hF; generalize (⟨(#[.func (.func 41) #[] #[.pointer (some ⟨bb, 0, none⟩)]] : Array Value) ++ Array.replicate (5 - (#[.func (.func 41) #[] #[.pointer (some ⟨bb, 0, none⟩)]] : Array Value).size) undef, []⟩ : Act) = a; intro hF
  have hH := hLI
  refine wp_seq_k fun khK1 hK1 => ?_
  refine wp_region_lit ?_
  refine l_at hF rfl rfl rfl (x_assign rfl) ?_; clear hF; intro a hF
  refine wpList_nil ?_
  refine hK1 _ _ ?_
  refine wp_seq_k fun khK2 hK2 => ?_
  refine wp_region_lit ?_
  refine l_at hF rfl rfl rfl (x_move (hF.tmp 0 rfl)) ?_; clear hF; intro a hF
  refine wpList_plain rfl fun K hK => ?_
  refine w_call hF (x_enter Try.func42 (by kernel_rfl) rfl (by simp only [List.map_toArray, List.map_cons, List.map_nil, hF.tmp 3 rfl] <;> rfl)) (appseq_calls _ ((hH.sub [(1, .ro (.blk bb (.cells #[.map (some bm)] 60 (0, 0)))), (2, .ro (.map KB NV bm m noB))] (sub_cons (sub_cons (sub_nil _) 2 rfl) 1 rfl)).still (own_cons (fun k h => h.elim) (own_cons (fun k h => h.elim) own_nil))) hmm) rfl rfl ?_
  rintro _ w ⟨v4, xs, rfl, hxs, hm_, hr_⟩; refine ⟨_, rfl, ?_⟩; clear hF; intro a hF; have hH := Hp.rowOut hH 4 hm_ hr_
  refine hK _ _ ?_; clear hK K
  refine l_at hF rfl rfl rfl (x_assign (hF.tmp 4 rfl)) ?_; clear hF; intro a hF
  refine wpList_nil ?_
  refine hK2 _ _ ?_
  refine wp_ret ?_
  try simp only [Exit.then, Exit.inBlock]
  exact fin_ret hF (res1 hF rfl rfl) ⟨v4, xs, rfl, hxs, hH.mods, Hp.out hH 4 rfl⟩

set_option maxRecDepth 100000 in
set_option maxHeartbeats 1000000 in
theorem sorted_calls (w0 : World) {bb bm : Nat} {m : List (Int × Nat)} (hLI : Hp (fun _ => False) w0 w0 [(1, .ro (.blk bb (.cells #[.map (some bm)] 60 (0, 0)))), (2, .ro (.map KB NV bm m noB))]) (hmm : m.length ≤ kmax) : Calls Try.prog 36 #[.func (.func 41) #[] #[.pointer (some ⟨bb, 0, none⟩)]] w0 fun e w' => ∃ v, e = .returned v ∧ Mods (fun _ => False) w0 w' ∧ RowOut RB 5 w0 w' v (sortB (m.map (·.1))) := by
  refine calls_of_wp Try.func36 rfl ?_
  have hF := Fr.enter #[.func (.func 41) #[] #[.pointer (some ⟨bb, 0, none⟩)]] 9 (slotsOf [.func (.func 41) #[] #[.pointer (some ⟨bb, 0, none⟩)]] 0) (Nat.le_of_ble_eq_true rfl) (fun i v h => by have h2 := (get_slotsOf _ 0 i v h).2; simpa only [List.getElem?_toArray, Nat.sub_zero] using h2)
  rw [Try.ntmps36]
  revert hF; generalize (⟨(#[.func (.func 41) #[] #[.pointer (some ⟨bb, 0, none⟩)]] : Array Value) ++ Array.replicate (9 - (#[.func (.func 41) #[] #[.pointer (some ⟨bb, 0, none⟩)]] : Array Value).size) undef, []⟩ : Act) = a; intro hF
  have hH := hLI
  refine wp_seq_k fun khK1 hK1 => ?_
  refine wp_region_lit ?_
  refine l_at hF rfl rfl rfl (x_assign rfl) ?_; clear hF; intro a hF
  refine wpList_nil ?_
  refine hK1 _ _ ?_
  refine wp_seq_k fun khK2 hK2 => ?_
  refine wp_region_lit ?_
  refine l_at hF rfl rfl rfl (x_move (hF.tmp 0 rfl)) ?_; clear hF; intro a hF
  refine wpList_plain rfl fun K hK => ?_
  refine w_call hF (x_enter Try.func39 (by kernel_rfl) rfl (by simp only [List.map_toArray, List.map_cons, List.map_nil, hF.tmp 4 rfl] <;> rfl)) (collect_calls _ ((hH.sub [(1, .ro (.blk bb (.cells #[.map (some bm)] 60 (0, 0)))), (2, .ro (.map KB NV bm m noB))] (sub_cons (sub_cons (sub_nil _) 2 rfl) 1 rfl)).still (own_cons (fun k h => h.elim) (own_cons (fun k h => h.elim) own_nil))) (by unfold kmax at hmm; omega)) rfl rfl ?_
  rintro _ w ⟨v5, xs, rfl, hxs, hm_, hr_⟩; refine ⟨_, rfl, ?_⟩; clear hF; intro a hF; have hH := Hp.rowOut hH 5 hm_ hr_
  refine hK _ _ ?_; clear hK K
  refine l_at hF rfl rfl rfl (x_assign (hF.tmp 5 rfl)) ?_; clear hF; intro a hF
  refine wpList_nil ?_
  refine hK2 _ _ ?_
  refine wp_seq_k fun khK3 hK3 => ?_
  refine wp_region_lit ?_
  refine l_at hF rfl rfl rfl (x_move (hF.tmp 3 rfl)) ?_; clear hF; intro a hF
  refine wpList_plain rfl fun K hK => ?_
  refine w_call hF (x_enter Try.func40 (by kernel_rfl) rfl (by simp only [List.map_toArray, List.map_cons, List.map_nil, hF.tmp 6 rfl] <;> rfl)) (sort_calls _ (d := xs.toArray) (hH.row 5 rfl) (by have h2 := hxs.length_eq; rw [List.length_map] at h2; simp only [List.size_toArray]; omega)) rfl rfl ?_
  rintro _ w ⟨rfl, hm_, hr_⟩; refine ⟨_, rfl, ?_⟩; clear hF; intro a hF; have hH := hH.rowTurn 5 rfl hm_ hr_
  refine hK _ _ ?_; clear hK K
  refine wpList_nil ?_
  refine hK3 _ _ ?_
  refine wp_seq_k fun khK4 hK4 => ?_
  refine wp_region_lit ?_
  refine l_at hF rfl rfl rfl (x_move (hF.tmp 3 rfl)) ?_; clear hF; intro a hF
  refine l_at hF rfl rfl rfl (x_assign (hF.tmp 8 rfl)) ?_; clear hF; intro a hF
  refine wpList_nil ?_
  refine hK4 _ _ ?_
  refine wp_ret ?_
  try simp only [Exit.then, Exit.inBlock]
  exact fin_ret hF (res1 hF rfl rfl) ⟨_, rfl, hH.mods, by rw [← sortB_of_perm hxs]; exact Hp.out hH 5 rfl⟩

end Go.Proofs.Ytlcnoibjhmflnaa.Act
