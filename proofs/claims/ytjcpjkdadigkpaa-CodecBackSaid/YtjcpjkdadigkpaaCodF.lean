/- The laws of there and back, walked. -/
import Derived.Test.YtjcpjkdadigkpaaCodC
import Derived.Test.YtjcpjkdadigkpaaCodH
set_option linter.unusedVariables false
set_option linter.unusedSimpArgs false
namespace Go.Proofs.Ytjcpjkdadigkpaa.Cod
open Go.RowKit Go.Proofs.Ytjcpjkdadigkpaa.Sx
theorem rd_cast {α : Type} {E : Rep α} {w : World} {ok : Nat → Prop} {A : Option Addr} {xs ys : List α} {c : Nat} (h : Rd E w ok A xs c) (e : xs = ys) : Rd E w ok A ys c := e ▸ h
set_option maxHeartbeats 1000000 in
theorem encodes_calls (w0 : World) {ok ok2 : Nat → Prop} {A1 A2 : Option Addr} {xs : List Fld} {bs : List Int} {c1 c2 : Nat} (hra : Rd FE w0 ok A1 xs c1) (hrb : Rd (.int .u8) w0 ok2 A2 bs c2) (hby : Byt bs) : Calls Try.prog 9 #[.slice A1 xs.length c1, .slice A2 bs.length c2] w0 fun e w' => e = .returned (.bool true) ∧ Mods (fun _ => False) w0 w' := by
  refine calls_of_wp Try.func9 rfl ?_
  have hF := Fr.enter #[.slice A1 xs.length c1, .slice A2 bs.length c2] 85 (slotsOf [.slice A1 xs.length c1, .slice A2 bs.length c2] 0) (Nat.le_of_ble_eq_true rfl) (fun i v h => by have h2 := (get_slotsOf _ 0 i v h).2; simpa only [List.getElem?_toArray, Nat.sub_zero] using h2)
  have hH := Hp.nil (fun _ => False) w0
  rw [Try.ntmps9]
  revert hF; generalize (⟨(#[.slice A1 xs.length c1, .slice A2 bs.length c2] : Array Value) ++ Array.replicate (85 - (#[.slice A1 xs.length c1, .slice A2 bs.length c2] : Array Value).size) undef, []⟩ : Act) = a; intro hF
  have hH := hH.arg 901 hra.all (fun _ h => ⟨h, fun h => h⟩)
  have hle901 := hra.le; unfold maxLen at hle901
  have hH := hH.arg 902 hrb.all (fun _ h => ⟨h, fun h => h⟩)
  have hle902 := hrb.le; unfold maxLen at hle902
  refine wp_seq_k fun khK1 hK1 => ?_
  refine wp_region_lit ?_
  refine l_at hF rfl rfl rfl (x_assign rfl) ?_; clear hF; intro a hF
  refine wpList_nil ?_
  refine hK1 _ _ ?_
  refine wp_seq_k fun khK2 hK2 => ?_
  refine wp_region_lit ?_
  refine l_at hF rfl rfl rfl (x_move (hF.tmp 0 rfl)) ?_; clear hF; intro a hF
  refine wpList_plain rfl fun K hK => ?_
  refine w_call hF (x_enter Try.func13 (by kernel_rfl) rfl (by simp only [List.map_toArray, List.map_cons, List.map_nil, hF.tmp 16 rfl] <;> rfl)) (few_calls _ ((hH.rd 901 rfl))) rfl rfl ?_
  rintro _ w ⟨rfl, hm_⟩; refine ⟨_, rfl, ?_⟩; clear hF; intro a hF; have hH := hH.same hm_
  refine hK _ _ ?_; clear hK K
  refine l_at hF rfl rfl rfl (x_assign (hF.tmp 17 rfl)) ?_; clear hF; intro a hF
  refine wpList_nil ?_
  refine hK2 _ _ ?_
  refine wp_seq_k fun khK3 hK3 => ?_
  refine wp_seq_k fun khK4 hK4 => ?_
  refine wp_region_lit ?_
  refine l_at hF rfl rfl rfl (x_move (hF.tmp 5 rfl)) ?_; clear hF; intro a hF
  refine l_at hF rfl rfl rfl (x_not (hF.tmp 18 rfl)) ?_; clear hF; intro a hF
  refine l_at hF rfl rfl rfl (x_move (hF.tmp 19 rfl)) ?_; clear hF; intro a hF
  refine split_bool hF 20 rfl (fun hb20 => ?_) (fun hb20 => ?_)
  · have hc20 := hb20; try simp only [Bool.or_eq_true, Bool.and_eq_true, Bool.or_eq_false_iff, Bool.and_eq_false_iff, Bool.not_eq_true', Bool.not_eq_false', decide_eq_true_eq, decide_eq_false_iff_not, Bool.not_true, Bool.not_false] at hc20
    refine l_offg hF ((wanted_of hF rfl rfl rfl rfl).trans (by rw [hb20]; rfl)) rfl rfl ?_; clear hF; intro a hF
    refine l_offg hF ((wanted_of hF rfl rfl rfl rfl).trans (by rw [hb20]; rfl)) rfl rfl ?_; clear hF; intro a hF
    refine l_offg hF ((wanted_of hF rfl rfl rfl rfl).trans (by rw [hb20]; rfl)) rfl rfl ?_; clear hF; intro a hF
    refine l_at hF rfl rfl rfl (x_pickT (hF.tmp 20 rfl) hb20 rfl) ?_; clear hF; intro a hF
    refine wpList_nil ?_
    refine hK4 _ _ ?_
    refine wp_cond_true (hF.tmp 24 rfl) ?_
    refine wp_seq_k fun khK5 hK5 => ?_
    refine wp_region_lit ?_
    refine wpList_plain rfl fun K hK => ?_
    refine w_call hF (x_enter Try.func14 (by kernel_rfl) rfl (by simp only [List.map_toArray, List.map_cons, List.map_nil] <;> rfl)) (alive_calls _) rfl rfl ?_
    rintro _ w ⟨rfl, hm_⟩; refine ⟨_, rfl, ?_⟩; clear hF; intro a hF; have hH := hH.same hm_
    refine hK _ _ ?_; clear hK K
    refine l_at hF rfl rfl rfl (x_assign (hF.tmp 25 rfl)) ?_; clear hF; intro a hF
    refine wpList_nil ?_
    refine hK5 _ _ ?_
    refine wp_ret ?_
    try simp only [Exit.then, Exit.inBlock]
    exact fin_ret hF (res1 hF rfl rfl) ⟨rfl, hH.mods⟩
  · have hc20 := hb20; try simp only [Bool.or_eq_true, Bool.and_eq_true, Bool.or_eq_false_iff, Bool.and_eq_false_iff, Bool.not_eq_true', Bool.not_eq_false', decide_eq_true_eq, decide_eq_false_iff_not, Bool.not_true, Bool.not_false] at hc20
    refine l_atg hF ((wanted_of hF rfl rfl rfl rfl).trans (by rw [hb20]; rfl)) rfl rfl (x_move (hF.tmp 1 rfl)) ?_; clear hF; intro a hF
    refine l_atg hF ((wanted_of hF rfl rfl rfl rfl).trans (by rw [hb20]; rfl)) rfl rfl (x_len_slice Try.underlying22 (hF.tmp 21 rfl)) ?_; clear hF; intro a hF
    refine l_atg hF ((wanted_of hF rfl rfl rfl rfl).trans (by rw [hb20]; rfl)) rfl rfl (x_gtr (hF.tmp 22 rfl) rfl) ?_; clear hF; intro a hF
    refine l_at hF rfl rfl rfl (x_pickF (hF.tmp 20 rfl) hb20 (hF.tmp 23 rfl)) ?_; clear hF; intro a hF
    refine wpList_nil ?_
    refine hK4 _ _ ?_
    refine wp_cond_split (hF.tmp 24 rfl) (fun hc24 => ?_) (fun hc24 => ?_)
    · try simp only [Bool.or_eq_true, Bool.and_eq_true, Bool.or_eq_false_iff, Bool.and_eq_false_iff, Bool.not_eq_true', Bool.not_eq_false', decide_eq_true_eq, decide_eq_false_iff_not, Bool.not_true, Bool.not_false] at hc24
      refine wp_seq_k fun khK6 hK6 => ?_
      refine wp_region_lit ?_
      refine wpList_plain rfl fun K hK => ?_
      refine w_call hF (x_enter Try.func14 (by kernel_rfl) rfl (by simp only [List.map_toArray, List.map_cons, List.map_nil] <;> rfl)) (alive_calls _) rfl rfl ?_
      rintro _ w ⟨rfl, hm_⟩; refine ⟨_, rfl, ?_⟩; clear hF; intro a hF; have hH := hH.same hm_
      refine hK _ _ ?_; clear hK K
      refine l_at hF rfl rfl rfl (x_assign (hF.tmp 25 rfl)) ?_; clear hF; intro a hF
      refine wpList_nil ?_
      refine hK6 _ _ ?_
      refine wp_ret ?_
      try simp only [Exit.then, Exit.inBlock]
      exact fin_ret hF (res1 hF rfl rfl) ⟨rfl, hH.mods⟩
    · try simp only [Bool.or_eq_true, Bool.and_eq_true, Bool.or_eq_false_iff, Bool.and_eq_false_iff, Bool.not_eq_true', Bool.not_eq_false', decide_eq_true_eq, decide_eq_false_iff_not, Bool.not_true, Bool.not_false] at hc24
      refine wp_skip ?_
      refine hK3 _ _ ?_
      refine wp_seq_k fun khK7 hK7 => ?_
      refine wp_region_lit ?_
      refine wpList_plain rfl fun K hK => ?_
      refine w_lit0 (.int .u8) 26 hF hH rfl Try.underlying22 ty5 ?_
      clear hF hH; intro a w b26 hF hH
      refine hK _ _ ?_; clear hK K
      refine l_at hF rfl rfl rfl (x_move (hF.tmp 1 rfl)) ?_; clear hF; intro a hF
      refine wpList_plain rfl fun K hK => ?_
      refine w_append 26 902 hF hH rfl Try.underlying22 ty5 rfl rfl rfl rfl ((hH.rd 902 rfl)) (by intro k_ hk_; exact .inr hk_) (hF.tmp 26 rfl) (hF.tmp 27 rfl) (by simp only [List.length_append, List.length_nil, List.length_cons] at *; omega) (by simp only [List.length_append, List.length_nil, List.length_cons, maxLen] at *; omega) (fun _ => False) (fun w' v' h => row_flat h _) (fun k_ hk_ => hk_.elim) ?_
      clear hF hH; intro a w v28 hF hH
      refine hK _ _ ?_; clear hK K
      refine wpList_plain rfl fun K hK => ?_
      refine w_lit 29 (enc := Value.int .u8) (h1 := fun _ => rfl) ([7] : List Int) hF hH rfl Try.underlying22 ty5 rfl rfl (by decide) (by decide) (by kernel_rfl) ?_
      clear hF hH; intro a w b29 hF hH
      refine hK _ _ ?_; clear hK K
      refine wpList_plain rfl fun K hK => ?_
      refine w_append 26 29 hF hH rfl Try.underlying22 ty5 rfl rfl rfl rfl (Row.rd (ok' := fun k_ => (fun _ => False) k_ ∨ (.slice (some ⟨b29, 0, none⟩) (([7] : List Int)).length (([7] : List Int)).length : Value).ownBlock = some k_) (hH.row 29 rfl) (fun _ hk_ _ => .inl hk_) (fun _ hk_ => .inr hk_)) (by rintro k_ (hk_ | hk_); exact .inr hk_; exact .inl hk_) (hF.tmp 28 rfl) (hF.tmp 29 rfl) (by simp only [List.length_append, List.length_nil, List.length_cons] at *; omega) (by simp only [List.length_append, List.length_nil, List.length_cons, maxLen] at *; omega) (fun _ => False) (fun w' v' h => row_flat h _) (fun k_ hk_ => hk_.elim) ?_
      clear hF hH; intro a w v30 hF hH
      refine hK _ _ ?_; clear hK K
      obtain ⟨A30, c30, rfl⟩ := (hH.row 26 rfl).form
      refine l_at hF rfl rfl rfl (x_move (hF.tmp 1 rfl)) ?_; clear hF; intro a hF
      refine l_at hF rfl rfl rfl (x_len_slice Try.underlying22 (hF.tmp 31 rfl)) ?_; clear hF; intro a hF
      refine l_at hF rfl rfl rfl (x_slice_h Try.underlying22 ty5 (hF.tmp 30 rfl) (hF.tmp 32 rfl) (by omega) (by simp only [List.length_append, List.length_nil, List.length_cons]; omega) (Row.rd (ok' := fun k_ => (fun _ => False) k_ ∨ (.slice A30 (([] ++ bs) ++ ([7] : List Int)).length c30 : Value).ownBlock = some k_) (hH.row 26 rfl) (fun _ hk_ _ => .inl hk_) (fun _ hk_ => .inr hk_)).1) ?_; clear hF; intro a hF
      have hkept : ((([] ++ bs) ++ [7]).take (bs.length : Int).toNat) = bs := by simp
      rw [hkept] at hF
      refine l_at hF rfl rfl rfl (x_assign (hF.tmp 33 rfl)) ?_; clear hF; intro a hF
      refine wpList_nil ?_
      refine hK7 _ _ ?_
      refine wp_seq_k fun khK8 hK8 => ?_
      refine wp_region_lit ?_
      refine l_at hF rfl rfl rfl (x_move (hF.tmp 0 rfl)) ?_; clear hF; intro a hF
      refine wpList_plain rfl fun K hK => ?_
      refine w_call hF (x_enter Try.func15 (by kernel_rfl) rfl (by simp only [List.map_toArray, List.map_cons, List.map_nil, hF.tmp 35 rfl] <;> rfl)) (enc_calls _ ((hH.rd 901 rfl))) rfl rfl ?_
      rintro _ w ⟨vr32, rfl, hm_, hr_⟩; refine ⟨_, rfl, ?_⟩; clear hF; intro a hF; have hH := Hp.rowOut hH 32 hm_ hr_; obtain ⟨Ar32, cr32, rfl⟩ := (hH.row 32 rfl).form
      refine hK _ _ ?_; clear hK K
      refine l_at hF rfl rfl rfl (x_move (hF.tmp 36 rfl)) ?_; clear hF; intro a hF
      refine l_at hF rfl rfl rfl (x_extract (hF.tmp 34 rfl) rfl) ?_; clear hF; intro a hF
      refine l_at hF rfl rfl rfl (x_extract (hF.tmp 34 rfl) rfl) ?_; clear hF; intro a hF
      refine l_at hF rfl rfl rfl (x_assign (hF.tmp 37 rfl)) ?_; clear hF; intro a hF
      refine l_at hF rfl rfl rfl (x_assign (hF.tmp 38 rfl)) ?_; clear hF; intro a hF
      refine wpList_nil ?_
      refine hK8 _ _ ?_
      refine wp_seq_k fun khK9 hK9 => ?_
      refine wp_region_lit ?_
      refine l_at hF rfl rfl rfl (x_move (hF.tmp 0 rfl)) ?_; clear hF; intro a hF
      refine wpList_plain rfl fun K hK => ?_
      refine w_call hF (x_enter Try.func21 (by kernel_rfl) rfl (by simp only [List.map_toArray, List.map_cons, List.map_nil, hF.tmp 40 rfl] <;> rfl)) (refEnc_calls _ ((hH.rd 901 rfl))) rfl rfl ?_
      rintro _ w ⟨vr37, rfl, hm_, hr_⟩; refine ⟨_, rfl, ?_⟩; clear hF; intro a hF; have hH := Hp.rowOut hH 37 hm_ hr_; obtain ⟨Ar37, cr37, rfl⟩ := (hH.row 37 rfl).form
      refine hK _ _ ?_; clear hK K
      refine l_at hF rfl rfl rfl (x_move (hF.tmp 41 rfl)) ?_; clear hF; intro a hF
      refine l_at hF rfl rfl rfl (x_extract (hF.tmp 39 rfl) rfl) ?_; clear hF; intro a hF
      refine l_at hF rfl rfl rfl (x_extract (hF.tmp 39 rfl) rfl) ?_; clear hF; intro a hF
      refine l_at hF rfl rfl rfl (x_assign (hF.tmp 42 rfl)) ?_; clear hF; intro a hF
      refine l_at hF rfl rfl rfl (x_assign (hF.tmp 43 rfl)) ?_; clear hF; intro a hF
      refine wpList_nil ?_
      refine hK9 _ _ ?_
      refine wp_seq_k fun khK10 hK10 => ?_
      refine wp_region_lit ?_
      refine l_at hF rfl rfl rfl (x_move (hF.tmp 6 rfl)) ?_; clear hF; intro a hF
      refine wpList_plain rfl fun K hK => ?_
      refine w_call hF (x_enter Try.func22 (by kernel_rfl) rfl (by simp only [List.map_toArray, List.map_cons, List.map_nil, hF.tmp 45 rfl] <;> rfl)) (dec_calls _ ((rd_cast ((Rd.take (Row.rd (ok' := fun k_ => (fun _ => False) k_ ∨ (.slice A30 (([] ++ bs) ++ ([7] : List Int)).length c30 : Value).ownBlock = some k_) (hH.row 26 rfl) (fun _ hk_ _ => .inl hk_) (fun _ hk_ => .inr hk_)) ((bs.length : Int).toNat))) hkept)) (hby)) rfl rfl ?_
      rintro _ w ⟨vr42, rfl, hm_, okr42, hr_, hf_, ho_⟩; refine ⟨_, rfl, ?_⟩; clear hF; intro a hF; have hH := hH.newRow 42 hm_ hr_ hf_ ho_; obtain ⟨Ar42, cr42, rfl⟩ := (hH.row 42 rfl).form
      refine hK _ _ ?_; clear hK K
      refine l_at hF rfl rfl rfl (x_move (hF.tmp 46 rfl)) ?_; clear hF; intro a hF
      refine l_at hF rfl rfl rfl (x_extract (hF.tmp 44 rfl) rfl) ?_; clear hF; intro a hF
      refine l_at hF rfl rfl rfl (x_extract (hF.tmp 44 rfl) rfl) ?_; clear hF; intro a hF
      refine l_at hF rfl rfl rfl (x_assign (hF.tmp 47 rfl)) ?_; clear hF; intro a hF
      refine l_at hF rfl rfl rfl (x_assign (hF.tmp 48 rfl)) ?_; clear hF; intro a hF
      refine wpList_nil ?_
      refine hK10 _ _ ?_
      refine wp_seq_k fun khK11 hK11 => ?_
      refine wp_region_lit ?_
      refine l_at hF rfl rfl rfl (x_move (hF.tmp 1 rfl)) ?_; clear hF; intro a hF
      refine wpList_plain rfl fun K hK => ?_
      refine w_call hF (x_enter Try.func23 (by kernel_rfl) rfl (by simp only [List.map_toArray, List.map_cons, List.map_nil, hF.tmp 50 rfl] <;> rfl)) (refDec_calls _ ((hH.rd 902 rfl)) (hby)) rfl rfl ?_
      rintro _ w ⟨vr47, rfl, hm_, okr47, hr_, hf_, ho_⟩; refine ⟨_, rfl, ?_⟩; clear hF; intro a hF; have hH := hH.newRow 47 hm_ hr_ hf_ ho_; obtain ⟨Ar47, cr47, rfl⟩ := (hH.row 47 rfl).form
      refine hK _ _ ?_; clear hK K
      refine l_at hF rfl rfl rfl (x_move (hF.tmp 51 rfl)) ?_; clear hF; intro a hF
      refine l_at hF rfl rfl rfl (x_extract (hF.tmp 49 rfl) rfl) ?_; clear hF; intro a hF
      refine l_at hF rfl rfl rfl (x_extract (hF.tmp 49 rfl) rfl) ?_; clear hF; intro a hF
      refine l_at hF rfl rfl rfl (x_assign (hF.tmp 52 rfl)) ?_; clear hF; intro a hF
      refine l_at hF rfl rfl rfl (x_assign (hF.tmp 53 rfl)) ?_; clear hF; intro a hF
      refine wpList_nil ?_
      refine hK11 _ _ ?_
      refine wp_seq_k fun khK12 hK12 => ?_
      refine wp_region_lit ?_
      refine l_at hF rfl rfl rfl (x_move (hF.tmp 11 rfl)) ?_; clear hF; intro a hF
      refine l_at hF rfl rfl rfl (x_move (hF.tmp 13 rfl)) ?_; clear hF; intro a hF
      refine wpList_plain rfl fun K hK => ?_
      refine w_call hF (x_enter Try.func24 (by kernel_rfl) rfl (by simp only [List.map_toArray, List.map_cons, List.map_nil, hF.tmp 54 rfl, hF.tmp 55 rfl] <;> rfl)) (same_calls _ (Row.rd (ok' := fun k_ => okr42 k_ ∨ (.slice Ar42 ((decR bs).getD []).length cr42 : Value).ownBlock = some k_) (hH.row 42 rfl) (fun _ hk_ _ => .inl hk_) (fun _ hk_ => .inr hk_)) (Row.rd (ok' := fun k_ => okr47 k_ ∨ (.slice Ar47 ((decR bs).getD []).length cr47 : Value).ownBlock = some k_) (hH.row 47 rfl) (fun _ hk_ _ => .inl hk_) (fun _ hk_ => .inr hk_))) rfl rfl ?_
      rintro _ w ⟨rfl, hm_⟩; refine ⟨_, rfl, ?_⟩; clear hF; intro a hF; have hH := hH.same hm_
      refine hK _ _ ?_; clear hK K
      rw [sameI_refl] at hF
      refine l_at hF rfl rfl rfl (x_assign (hF.tmp 56 rfl)) ?_; clear hF; intro a hF
      refine wpList_nil ?_
      refine hK12 _ _ ?_
      refine wp_seq_k fun khK13 hK13 => ?_
      refine wp_region_lit ?_
      refine wpList_plain rfl fun K hK => ?_
      refine w_call hF (x_enter Try.func14 (by kernel_rfl) rfl (by simp only [List.map_toArray, List.map_cons, List.map_nil] <;> rfl)) (alive_calls _) rfl rfl ?_
      rintro _ w ⟨rfl, hm_⟩; refine ⟨_, rfl, ?_⟩; clear hF; intro a hF; have hH := hH.same hm_
      refine hK _ _ ?_; clear hK K
      refine l_at hF rfl rfl rfl (x_move (hF.tmp 57 rfl)) ?_; clear hF; intro a hF
      refine l_atg hF ((wanted_of hF rfl rfl rfl rfl).trans rfl) rfl rfl (x_move (hF.tmp 7 rfl)) ?_; clear hF; intro a hF
      refine l_atg hF ((wanted_of hF rfl rfl rfl rfl).trans rfl) rfl rfl (x_b2s Try.underlying22 Try.underlying5 Try.underlying9 (Row.rd (ok' := fun k_ => (fun _ => False) k_ ∨ (.slice Ar32 ((encR xs).getD []).length cr32 : Value).ownBlock = some k_) (hH.row 32 rfl) (fun _ hk_ _ => .inl hk_) (fun _ hk_ => .inr hk_)) (hF.tmp 59 rfl)) ?_; clear hF; intro a hF
      refine l_atg hF ((wanted_of hF rfl rfl rfl rfl).trans rfl) rfl rfl (x_move (hF.tmp 9 rfl)) ?_; clear hF; intro a hF
      refine l_atg hF ((wanted_of hF rfl rfl rfl rfl).trans rfl) rfl rfl (x_b2s Try.underlying22 Try.underlying5 Try.underlying9 (Row.rd (ok' := fun k_ => (fun _ => False) k_ ∨ (.slice Ar37 ((encR xs).getD []).length cr37 : Value).ownBlock = some k_) (hH.row 37 rfl) (fun _ hk_ _ => .inl hk_) (fun _ hk_ => .inr hk_)) (hF.tmp 61 rfl)) ?_; clear hF; intro a hF
      refine l_atg hF ((wanted_of hF rfl rfl rfl rfl).trans rfl) rfl rfl (x_eqs (hF.tmp 60 rfl) (hF.tmp 62 rfl)) ?_; clear hF; intro a hF
      rw [decide_eq_true (rfl)] at hF
      refine l_at hF rfl rfl rfl (x_pickT (hF.tmp 58 rfl) rfl (hF.tmp 63 rfl)) ?_; clear hF; intro a hF
      refine l_at hF rfl rfl rfl (x_move (hF.tmp 64 rfl)) ?_; clear hF; intro a hF
      refine l_atg hF ((wanted_of hF rfl rfl rfl rfl).trans rfl) rfl rfl (x_move (hF.tmp 8 rfl)) ?_; clear hF; intro a hF
      refine l_atg hF ((wanted_of hF rfl rfl rfl rfl).trans rfl) rfl rfl (x_move (hF.tmp 10 rfl)) ?_; clear hF; intro a hF
      refine l_atg hF ((wanted_of hF rfl rfl rfl rfl).trans rfl) rfl rfl (x_eql (hF.tmp 66 rfl) (hF.tmp 67 rfl)) ?_; clear hF; intro a hF
      rw [decide_eq_true (rfl)] at hF
      refine l_at hF rfl rfl rfl (x_pickT (hF.tmp 65 rfl) rfl (hF.tmp 68 rfl)) ?_; clear hF; intro a hF
      refine l_at hF rfl rfl rfl (x_move (hF.tmp 69 rfl)) ?_; clear hF; intro a hF
      refine l_atg hF ((wanted_of hF rfl rfl rfl rfl).trans rfl) rfl rfl (x_move (hF.tmp 15 rfl)) ?_; clear hF; intro a hF
      refine l_at hF rfl rfl rfl (x_pickT (hF.tmp 70 rfl) rfl (hF.tmp 71 rfl)) ?_; clear hF; intro a hF
      refine l_at hF rfl rfl rfl (x_move (hF.tmp 72 rfl)) ?_; clear hF; intro a hF
      refine l_atg hF ((wanted_of hF rfl rfl rfl rfl).trans rfl) rfl rfl (x_move (hF.tmp 12 rfl)) ?_; clear hF; intro a hF
      refine l_atg hF ((wanted_of hF rfl rfl rfl rfl).trans rfl) rfl rfl (x_move (hF.tmp 14 rfl)) ?_; clear hF; intro a hF
      refine l_atg hF ((wanted_of hF rfl rfl rfl rfl).trans rfl) rfl rfl (x_eql (hF.tmp 74 rfl) (hF.tmp 75 rfl)) ?_; clear hF; intro a hF
      rw [decide_eq_true (rfl)] at hF
      refine l_at hF rfl rfl rfl (x_pickT (hF.tmp 73 rfl) rfl (hF.tmp 76 rfl)) ?_; clear hF; intro a hF
      refine l_at hF rfl rfl rfl (x_move (hF.tmp 77 rfl)) ?_; clear hF; intro a hF
      refine l_atg hF ((wanted_of hF rfl rfl rfl rfl).trans rfl) rfl rfl (x_move (hF.tmp 6 rfl)) ?_; clear hF; intro a hF
      refine l_atg hF ((wanted_of hF rfl rfl rfl rfl).trans rfl) rfl rfl (x_b2s Try.underlying22 Try.underlying5 Try.underlying9 ((rd_cast ((Rd.take (Row.rd (ok' := fun k_ => (fun _ => False) k_ ∨ (.slice A30 (([] ++ bs) ++ ([7] : List Int)).length c30 : Value).ownBlock = some k_) (hH.row 26 rfl) (fun _ hk_ _ => .inl hk_) (fun _ hk_ => .inr hk_)) ((bs.length : Int).toNat))) hkept)) (hF.tmp 79 rfl)) ?_; clear hF; intro a hF
      refine l_atg hF ((wanted_of hF rfl rfl rfl rfl).trans rfl) rfl rfl (x_move (hF.tmp 1 rfl)) ?_; clear hF; intro a hF
      refine l_atg hF ((wanted_of hF rfl rfl rfl rfl).trans rfl) rfl rfl (x_b2s Try.underlying22 Try.underlying5 Try.underlying9 ((hH.rd 902 rfl)) (hF.tmp 81 rfl)) ?_; clear hF; intro a hF
      refine l_atg hF ((wanted_of hF rfl rfl rfl rfl).trans rfl) rfl rfl (x_eqs (hF.tmp 80 rfl) (hF.tmp 82 rfl)) ?_; clear hF; intro a hF
      rw [decide_eq_true (rfl)] at hF
      refine l_at hF rfl rfl rfl (x_pickT (hF.tmp 78 rfl) rfl (hF.tmp 83 rfl)) ?_; clear hF; intro a hF
      refine l_at hF rfl rfl rfl (x_assign (hF.tmp 84 rfl)) ?_; clear hF; intro a hF
      refine wpList_nil ?_
      refine hK13 _ _ ?_
      refine wp_ret ?_
      try simp only [Exit.then, Exit.inBlock]
      exact fin_ret hF (res1 hF rfl rfl) ⟨rfl, hH.mods⟩

set_option maxHeartbeats 1000000 in
theorem back_calls (w0 : World) {ok ok2 : Nat → Prop} {A1 A2 : Option Addr} {xs : List Fld} {bs : List Int} {c1 c2 : Nat} (hra : Rd FE w0 ok A1 xs c1) (hrb : Rd (.int .u8) w0 ok2 A2 bs c2) (hby : Byt bs) {ok3 : Nat → Prop} {A3 : Option Addr} {ys : List Fld} {c3 : Nat} (hrc : Rd FE w0 ok3 A3 ys c3) (hbx : ∀ f ∈ xs, Byt f.2) (hbb : ∀ f ∈ ys, Byt f.2) : Calls Try.prog 10 #[.slice A1 xs.length c1, .slice A3 ys.length c3, .slice A2 bs.length c2] w0 fun e w' => e = .returned (.bool true) ∧ Mods (fun _ => False) w0 w' := by
  refine calls_of_wp Try.func10 rfl ?_
  have hF := Fr.enter #[.slice A1 xs.length c1, .slice A3 ys.length c3, .slice A2 bs.length c2] 149 (slotsOf [.slice A1 xs.length c1, .slice A3 ys.length c3, .slice A2 bs.length c2] 0) (Nat.le_of_ble_eq_true rfl) (fun i v h => by have h2 := (get_slotsOf _ 0 i v h).2; simpa only [List.getElem?_toArray, Nat.sub_zero] using h2)
  have hH := Hp.nil (fun _ => False) w0
  rw [Try.ntmps10]
  revert hF; generalize (⟨(#[.slice A1 xs.length c1, .slice A3 ys.length c3, .slice A2 bs.length c2] : Array Value) ++ Array.replicate (149 - (#[.slice A1 xs.length c1, .slice A3 ys.length c3, .slice A2 bs.length c2] : Array Value).size) undef, []⟩ : Act) = a; intro hF
  have hH := hH.arg 901 hra.all (fun _ h => ⟨h, fun h => h⟩)
  have hle901 := hra.le; unfold maxLen at hle901
  have hH := hH.arg 903 hrc.all (fun _ h => ⟨h, fun h => h⟩)
  have hle903 := hrc.le; unfold maxLen at hle903
  have hH := hH.arg 902 hrb.all (fun _ h => ⟨h, fun h => h⟩)
  have hle902 := hrb.le; unfold maxLen at hle902
  refine wp_seq_k fun khK1 hK1 => ?_
  refine wp_region_lit ?_
  refine l_at hF rfl rfl rfl (x_assign rfl) ?_; clear hF; intro a hF
  refine wpList_nil ?_
  refine hK1 _ _ ?_
  refine wp_seq_k fun khK2 hK2 => ?_
  refine wp_region_lit ?_
  refine l_at hF rfl rfl rfl (x_move (hF.tmp 0 rfl)) ?_; clear hF; intro a hF
  refine wpList_plain rfl fun K hK => ?_
  refine w_call hF (x_enter Try.func13 (by kernel_rfl) rfl (by simp only [List.map_toArray, List.map_cons, List.map_nil, hF.tmp 24 rfl] <;> rfl)) (few_calls _ ((hH.rd 901 rfl))) rfl rfl ?_
  rintro _ w ⟨rfl, hm_⟩; refine ⟨_, rfl, ?_⟩; clear hF; intro a hF; have hH := hH.same hm_
  refine hK _ _ ?_; clear hK K
  refine l_at hF rfl rfl rfl (x_assign (hF.tmp 25 rfl)) ?_; clear hF; intro a hF
  refine wpList_nil ?_
  refine hK2 _ _ ?_
  refine wp_seq_k fun khK3 hK3 => ?_
  refine wp_region_lit ?_
  refine l_at hF rfl rfl rfl (x_move (hF.tmp 1 rfl)) ?_; clear hF; intro a hF
  refine wpList_plain rfl fun K hK => ?_
  refine w_call hF (x_enter Try.func13 (by kernel_rfl) rfl (by simp only [List.map_toArray, List.map_cons, List.map_nil, hF.tmp 26 rfl] <;> rfl)) (few_calls _ ((hH.rd 903 rfl))) rfl rfl ?_
  rintro _ w ⟨rfl, hm_⟩; refine ⟨_, rfl, ?_⟩; clear hF; intro a hF; have hH := hH.same hm_
  refine hK _ _ ?_; clear hK K
  refine l_at hF rfl rfl rfl (x_assign (hF.tmp 27 rfl)) ?_; clear hF; intro a hF
  refine wpList_nil ?_
  refine hK3 _ _ ?_
  refine wp_seq_k fun khK4 hK4 => ?_
  refine wp_seq_k fun khK5 hK5 => ?_
  refine wp_region_lit ?_
  refine l_at hF rfl rfl rfl (x_move (hF.tmp 7 rfl)) ?_; clear hF; intro a hF
  refine l_at hF rfl rfl rfl (x_not (hF.tmp 28 rfl)) ?_; clear hF; intro a hF
  refine l_at hF rfl rfl rfl (x_move (hF.tmp 29 rfl)) ?_; clear hF; intro a hF
  refine split_bool hF 30 rfl (fun hb30 => ?_) (fun hb30 => ?_)
  · have hc30 := hb30; try simp only [Bool.or_eq_true, Bool.and_eq_true, Bool.or_eq_false_iff, Bool.and_eq_false_iff, Bool.not_eq_true', Bool.not_eq_false', decide_eq_true_eq, decide_eq_false_iff_not, Bool.not_true, Bool.not_false] at hc30
    refine l_offg hF ((wanted_of hF rfl rfl rfl rfl).trans (by rw [hb30]; rfl)) rfl rfl ?_; clear hF; intro a hF
    refine l_offg hF ((wanted_of hF rfl rfl rfl rfl).trans (by rw [hb30]; rfl)) rfl rfl ?_; clear hF; intro a hF
    refine l_at hF rfl rfl rfl (x_pickT (hF.tmp 30 rfl) hb30 rfl) ?_; clear hF; intro a hF
    refine l_at hF rfl rfl rfl (x_move (hF.tmp 33 rfl)) ?_; clear hF; intro a hF
    refine l_offg hF ((wanted_of hF rfl rfl rfl rfl).trans rfl) rfl rfl ?_; clear hF; intro a hF
    refine l_offg hF ((wanted_of hF rfl rfl rfl rfl).trans rfl) rfl rfl ?_; clear hF; intro a hF
    refine l_offg hF ((wanted_of hF rfl rfl rfl rfl).trans rfl) rfl rfl ?_; clear hF; intro a hF
    refine l_at hF rfl rfl rfl (x_pickT (hF.tmp 34 rfl) rfl rfl) ?_; clear hF; intro a hF
    refine wpList_nil ?_
    refine hK5 _ _ ?_
    refine wp_cond_true (hF.tmp 38 rfl) ?_
    refine wp_seq_k fun khK6 hK6 => ?_
    refine wp_region_lit ?_
    refine wpList_plain rfl fun K hK => ?_
    refine w_call hF (x_enter Try.func14 (by kernel_rfl) rfl (by simp only [List.map_toArray, List.map_cons, List.map_nil] <;> rfl)) (alive_calls _) rfl rfl ?_
    rintro _ w ⟨rfl, hm_⟩; refine ⟨_, rfl, ?_⟩; clear hF; intro a hF; have hH := hH.same hm_
    refine hK _ _ ?_; clear hK K
    refine l_at hF rfl rfl rfl (x_assign (hF.tmp 39 rfl)) ?_; clear hF; intro a hF
    refine wpList_nil ?_
    refine hK6 _ _ ?_
    refine wp_ret ?_
    try simp only [Exit.then, Exit.inBlock]
    exact fin_ret hF (res1 hF rfl rfl) ⟨rfl, hH.mods⟩
  · have hc30 := hb30; try simp only [Bool.or_eq_true, Bool.and_eq_true, Bool.or_eq_false_iff, Bool.and_eq_false_iff, Bool.not_eq_true', Bool.not_eq_false', decide_eq_true_eq, decide_eq_false_iff_not, Bool.not_true, Bool.not_false] at hc30
    refine l_atg hF ((wanted_of hF rfl rfl rfl rfl).trans (by rw [hb30]; rfl)) rfl rfl (x_move (hF.tmp 8 rfl)) ?_; clear hF; intro a hF
    refine l_atg hF ((wanted_of hF rfl rfl rfl rfl).trans (by rw [hb30]; rfl)) rfl rfl (x_not (hF.tmp 31 rfl)) ?_; clear hF; intro a hF
    refine l_at hF rfl rfl rfl (x_pickF (hF.tmp 30 rfl) hb30 (hF.tmp 32 rfl)) ?_; clear hF; intro a hF
    refine l_at hF rfl rfl rfl (x_move (hF.tmp 33 rfl)) ?_; clear hF; intro a hF
    refine split_bool hF 34 rfl (fun hb34 => ?_) (fun hb34 => ?_)
    · have hc34 := hb34; try simp only [Bool.or_eq_true, Bool.and_eq_true, Bool.or_eq_false_iff, Bool.and_eq_false_iff, Bool.not_eq_true', Bool.not_eq_false', decide_eq_true_eq, decide_eq_false_iff_not, Bool.not_true, Bool.not_false] at hc34
      refine l_offg hF ((wanted_of hF rfl rfl rfl rfl).trans (by rw [hb34]; rfl)) rfl rfl ?_; clear hF; intro a hF
      refine l_offg hF ((wanted_of hF rfl rfl rfl rfl).trans (by rw [hb34]; rfl)) rfl rfl ?_; clear hF; intro a hF
      refine l_offg hF ((wanted_of hF rfl rfl rfl rfl).trans (by rw [hb34]; rfl)) rfl rfl ?_; clear hF; intro a hF
      refine l_at hF rfl rfl rfl (x_pickT (hF.tmp 34 rfl) hb34 rfl) ?_; clear hF; intro a hF
      refine wpList_nil ?_
      refine hK5 _ _ ?_
      refine wp_cond_true (hF.tmp 38 rfl) ?_
      refine wp_seq_k fun khK7 hK7 => ?_
      refine wp_region_lit ?_
      refine wpList_plain rfl fun K hK => ?_
      refine w_call hF (x_enter Try.func14 (by kernel_rfl) rfl (by simp only [List.map_toArray, List.map_cons, List.map_nil] <;> rfl)) (alive_calls _) rfl rfl ?_
      rintro _ w ⟨rfl, hm_⟩; refine ⟨_, rfl, ?_⟩; clear hF; intro a hF; have hH := hH.same hm_
      refine hK _ _ ?_; clear hK K
      refine l_at hF rfl rfl rfl (x_assign (hF.tmp 39 rfl)) ?_; clear hF; intro a hF
      refine wpList_nil ?_
      refine hK7 _ _ ?_
      refine wp_ret ?_
      try simp only [Exit.then, Exit.inBlock]
      exact fin_ret hF (res1 hF rfl rfl) ⟨rfl, hH.mods⟩
    · have hc34 := hb34; try simp only [Bool.or_eq_true, Bool.and_eq_true, Bool.or_eq_false_iff, Bool.and_eq_false_iff, Bool.not_eq_true', Bool.not_eq_false', decide_eq_true_eq, decide_eq_false_iff_not, Bool.not_true, Bool.not_false] at hc34
      refine l_atg hF ((wanted_of hF rfl rfl rfl rfl).trans (by rw [hb34]; rfl)) rfl rfl (x_move (hF.tmp 2 rfl)) ?_; clear hF; intro a hF
      refine l_atg hF ((wanted_of hF rfl rfl rfl rfl).trans (by rw [hb34]; rfl)) rfl rfl (x_len_slice Try.underlying22 (hF.tmp 35 rfl)) ?_; clear hF; intro a hF
      refine l_atg hF ((wanted_of hF rfl rfl rfl rfl).trans (by rw [hb34]; rfl)) rfl rfl (x_gtr (hF.tmp 36 rfl) rfl) ?_; clear hF; intro a hF
      refine l_at hF rfl rfl rfl (x_pickF (hF.tmp 34 rfl) hb34 (hF.tmp 37 rfl)) ?_; clear hF; intro a hF
      refine wpList_nil ?_
      refine hK5 _ _ ?_
      refine wp_cond_split (hF.tmp 38 rfl) (fun hc38 => ?_) (fun hc38 => ?_)
      · try simp only [Bool.or_eq_true, Bool.and_eq_true, Bool.or_eq_false_iff, Bool.and_eq_false_iff, Bool.not_eq_true', Bool.not_eq_false', decide_eq_true_eq, decide_eq_false_iff_not, Bool.not_true, Bool.not_false] at hc38
        refine wp_seq_k fun khK8 hK8 => ?_
        refine wp_region_lit ?_
        refine wpList_plain rfl fun K hK => ?_
        refine w_call hF (x_enter Try.func14 (by kernel_rfl) rfl (by simp only [List.map_toArray, List.map_cons, List.map_nil] <;> rfl)) (alive_calls _) rfl rfl ?_
        rintro _ w ⟨rfl, hm_⟩; refine ⟨_, rfl, ?_⟩; clear hF; intro a hF; have hH := hH.same hm_
        refine hK _ _ ?_; clear hK K
        refine l_at hF rfl rfl rfl (x_assign (hF.tmp 39 rfl)) ?_; clear hF; intro a hF
        refine wpList_nil ?_
        refine hK8 _ _ ?_
        refine wp_ret ?_
        try simp only [Exit.then, Exit.inBlock]
        exact fin_ret hF (res1 hF rfl rfl) ⟨rfl, hH.mods⟩
      · try simp only [Bool.or_eq_true, Bool.and_eq_true, Bool.or_eq_false_iff, Bool.and_eq_false_iff, Bool.not_eq_true', Bool.not_eq_false', decide_eq_true_eq, decide_eq_false_iff_not, Bool.not_true, Bool.not_false] at hc38
        refine wp_skip ?_
        refine hK4 _ _ ?_
        refine wp_seq_k fun khK9 hK9 => ?_
        refine wp_region_lit ?_
        refine l_at hF rfl rfl rfl (x_move (hF.tmp 2 rfl)) ?_; clear hF; intro a hF
        refine wpList_plain rfl fun K hK => ?_
        refine w_call hF (x_enter Try.func22 (by kernel_rfl) rfl (by simp only [List.map_toArray, List.map_cons, List.map_nil, hF.tmp 41 rfl] <;> rfl)) (dec_calls _ ((hH.rd 902 rfl)) (hby)) rfl rfl ?_
        rintro _ w ⟨vr41, rfl, hm_, okr41, hr_, hf_, ho_⟩; refine ⟨_, rfl, ?_⟩; clear hF; intro a hF; have hH := hH.newRow 41 hm_ hr_ hf_ ho_; obtain ⟨Ar41, cr41, rfl⟩ := (hH.row 41 rfl).form
        refine hK _ _ ?_; clear hK K
        refine l_at hF rfl rfl rfl (x_move (hF.tmp 42 rfl)) ?_; clear hF; intro a hF
        refine l_at hF rfl rfl rfl (x_extract (hF.tmp 40 rfl) rfl) ?_; clear hF; intro a hF
        refine l_at hF rfl rfl rfl (x_extract (hF.tmp 40 rfl) rfl) ?_; clear hF; intro a hF
        refine l_at hF rfl rfl rfl (x_assign (hF.tmp 43 rfl)) ?_; clear hF; intro a hF
        refine l_at hF rfl rfl rfl (x_assign (hF.tmp 44 rfl)) ?_; clear hF; intro a hF
        refine wpList_nil ?_
        refine hK9 _ _ ?_
        refine wp_seq_k fun khK10 hK10 => ?_
        refine wp_seq_k fun khK11 hK11 => ?_
        refine wp_region_lit ?_
        refine l_at hF rfl rfl rfl (x_move (hF.tmp 10 rfl)) ?_; clear hF; intro a hF
        refine l_at hF rfl rfl rfl (x_eql (hF.tmp 45 rfl) rfl) ?_; clear hF; intro a hF
        refine wpList_nil ?_
        refine hK11 _ _ ?_
        have hJ46 : ∀ a w, Fr 149 a [(0, .slice A1 xs.length c1), (1, .slice A3 ys.length c3)] → Hp (fun _ => False) w0 w [(901, .rd_ FE A1 xs c1 (fun k => k < w0.heap.size)), (903, .rd_ FE A3 ys c3 (fun k => k < w0.heap.size)), (902, .rd_ (.int .u8) A2 bs c2 (fun k => k < w0.heap.size))] → khK10 a w := by
          intro a w  hF hH
          refine hK10 a w ?_
          refine wp_seq_k fun khK12 hK12 => ?_
          refine wp_region_lit ?_
          refine l_at hF rfl rfl rfl (x_move (hF.tmp 0 rfl)) ?_; clear hF; intro a hF
          refine wpList_plain rfl fun K hK => ?_
          refine w_call hF (x_enter Try.func15 (by kernel_rfl) rfl (by simp only [List.map_toArray, List.map_cons, List.map_nil, hF.tmp 62 rfl] <;> rfl)) (enc_calls _ ((hH.rd 901 rfl))) rfl rfl ?_
          rintro _ w ⟨vr63, rfl, hm_, hr_⟩; refine ⟨_, rfl, ?_⟩; clear hF; intro a hF; have hH := Hp.rowOut hH 63 hm_ hr_; obtain ⟨Ar63, cr63, rfl⟩ := (hH.row 63 rfl).form
          refine hK _ _ ?_; clear hK K
          refine l_at hF rfl rfl rfl (x_move (hF.tmp 63 rfl)) ?_; clear hF; intro a hF
          refine l_at hF rfl rfl rfl (x_extract (hF.tmp 61 rfl) rfl) ?_; clear hF; intro a hF
          refine l_at hF rfl rfl rfl (x_extract (hF.tmp 61 rfl) rfl) ?_; clear hF; intro a hF
          refine l_at hF rfl rfl rfl (x_assign (hF.tmp 64 rfl)) ?_; clear hF; intro a hF
          refine l_at hF rfl rfl rfl (x_assign (hF.tmp 65 rfl)) ?_; clear hF; intro a hF
          refine wpList_nil ?_
          refine hK12 _ _ ?_
          refine wp_seq_k fun khK13 hK13 => ?_
          refine wp_region_lit ?_
          refine l_at hF rfl rfl rfl (x_move (hF.tmp 1 rfl)) ?_; clear hF; intro a hF
          refine wpList_plain rfl fun K hK => ?_
          refine w_call hF (x_enter Try.func15 (by kernel_rfl) rfl (by simp only [List.map_toArray, List.map_cons, List.map_nil, hF.tmp 67 rfl] <;> rfl)) (enc_calls _ ((hH.rd 903 rfl))) rfl rfl ?_
          rintro _ w ⟨vr68, rfl, hm_, hr_⟩; refine ⟨_, rfl, ?_⟩; clear hF; intro a hF; have hH := Hp.rowOut hH 68 hm_ hr_; obtain ⟨Ar68, cr68, rfl⟩ := (hH.row 68 rfl).form
          refine hK _ _ ?_; clear hK K
          refine l_at hF rfl rfl rfl (x_move (hF.tmp 68 rfl)) ?_; clear hF; intro a hF
          refine l_at hF rfl rfl rfl (x_extract (hF.tmp 66 rfl) rfl) ?_; clear hF; intro a hF
          refine l_at hF rfl rfl rfl (x_extract (hF.tmp 66 rfl) rfl) ?_; clear hF; intro a hF
          refine l_at hF rfl rfl rfl (x_assign (hF.tmp 69 rfl)) ?_; clear hF; intro a hF
          refine l_at hF rfl rfl rfl (x_assign (hF.tmp 70 rfl)) ?_; clear hF; intro a hF
          refine wpList_nil ?_
          refine hK13 _ _ ?_
          refine wp_seq_k fun khK14 hK14 => ?_
          refine wp_seq_k fun khK15 hK15 => ?_
          refine wp_region_lit ?_
          refine l_at hF rfl rfl rfl (x_move (hF.tmp 14 rfl)) ?_; clear hF; intro a hF
          refine l_at hF rfl rfl rfl (x_neq (hF.tmp 71 rfl) rfl) ?_; clear hF; intro a hF
          refine l_at hF rfl rfl rfl (x_move (hF.tmp 72 rfl)) ?_; clear hF; intro a hF
          refine split_bool hF 73 rfl (fun hb73 => ?_) (fun hb73 => ?_)
          · have hc73 := hb73; try simp only [Bool.or_eq_true, Bool.and_eq_true, Bool.or_eq_false_iff, Bool.and_eq_false_iff, Bool.not_eq_true', Bool.not_eq_false', decide_eq_true_eq, decide_eq_false_iff_not, Bool.not_true, Bool.not_false] at hc73
            refine l_offg hF ((wanted_of hF rfl rfl rfl rfl).trans (by rw [hb73]; rfl)) rfl rfl ?_; clear hF; intro a hF
            refine l_offg hF ((wanted_of hF rfl rfl rfl rfl).trans (by rw [hb73]; rfl)) rfl rfl ?_; clear hF; intro a hF
            refine l_at hF rfl rfl rfl (x_pickT (hF.tmp 73 rfl) hb73 rfl) ?_; clear hF; intro a hF
            refine wpList_nil ?_
            refine hK15 _ _ ?_
            refine wp_cond_true (hF.tmp 76 rfl) ?_
            refine wp_seq_k fun khK16 hK16 => ?_
            refine wp_region_lit ?_
            refine wpList_plain rfl fun K hK => ?_
            refine w_call hF (x_enter Try.func14 (by kernel_rfl) rfl (by simp only [List.map_toArray, List.map_cons, List.map_nil] <;> rfl)) (alive_calls _) rfl rfl ?_
            rintro _ w ⟨rfl, hm_⟩; refine ⟨_, rfl, ?_⟩; clear hF; intro a hF; have hH := hH.same hm_
            refine hK _ _ ?_; clear hK K
            refine l_at hF rfl rfl rfl (x_move (hF.tmp 77 rfl)) ?_; clear hF; intro a hF
            refine l_atg hF ((wanted_of hF rfl rfl rfl rfl).trans rfl) rfl rfl (x_move (hF.tmp 14 rfl)) ?_; clear hF; intro a hF
            refine l_atg hF ((wanted_of hF rfl rfl rfl rfl).trans rfl) rfl rfl (x_eql (hF.tmp 79 rfl) rfl) ?_; clear hF; intro a hF
            refine l_atg hF ((wanted_of hF rfl rfl rfl rfl).trans rfl) rfl rfl (x_move (hF.tmp 80 rfl)) ?_; clear hF; intro a hF
            refine split_bool hF 81 rfl (fun hb81 => ?_) (fun hb81 => ?_)
            · have hc81 := hb81; try simp only [Bool.or_eq_true, Bool.and_eq_true, Bool.or_eq_false_iff, Bool.and_eq_false_iff, Bool.not_eq_true', Bool.not_eq_false', decide_eq_true_eq, decide_eq_false_iff_not, Bool.not_true, Bool.not_false] at hc81
              refine l_offg hF ((wanted_of hF rfl rfl rfl rfl).trans (by rw [hb81]; rfl)) rfl rfl ?_; clear hF; intro a hF
              refine l_offg hF ((wanted_of hF rfl rfl rfl rfl).trans (by rw [hb81]; rfl)) rfl rfl ?_; clear hF; intro a hF
              refine l_atg hF ((wanted_of hF rfl rfl rfl rfl).trans rfl) rfl rfl (x_pickT (hF.tmp 81 rfl) hb81 rfl) ?_; clear hF; intro a hF
              refine l_at hF rfl rfl rfl (x_pickT (hF.tmp 78 rfl) rfl (hF.tmp 84 rfl)) ?_; clear hF; intro a hF
              refine l_at hF rfl rfl rfl (x_move (hF.tmp 85 rfl)) ?_; clear hF; intro a hF
              refine l_atg hF ((wanted_of hF rfl rfl rfl rfl).trans rfl) rfl rfl (x_move (hF.tmp 16 rfl)) ?_; clear hF; intro a hF
              refine l_atg hF ((wanted_of hF rfl rfl rfl rfl).trans rfl) rfl rfl (x_eql (hF.tmp 87 rfl) rfl) ?_; clear hF; intro a hF
              refine l_atg hF ((wanted_of hF rfl rfl rfl rfl).trans rfl) rfl rfl (x_move (hF.tmp 88 rfl)) ?_; clear hF; intro a hF
              refine split_bool hF 89 rfl (fun hb89 => ?_) (fun hb89 => ?_)
              · have hc89 := hb89; try simp only [Bool.or_eq_true, Bool.and_eq_true, Bool.or_eq_false_iff, Bool.and_eq_false_iff, Bool.not_eq_true', Bool.not_eq_false', decide_eq_true_eq, decide_eq_false_iff_not, Bool.not_true, Bool.not_false] at hc89
                refine l_offg hF ((wanted_of hF rfl rfl rfl rfl).trans (by rw [hb89]; rfl)) rfl rfl ?_; clear hF; intro a hF
                refine l_offg hF ((wanted_of hF rfl rfl rfl rfl).trans (by rw [hb89]; rfl)) rfl rfl ?_; clear hF; intro a hF
                refine l_atg hF ((wanted_of hF rfl rfl rfl rfl).trans rfl) rfl rfl (x_pickT (hF.tmp 89 rfl) hb89 rfl) ?_; clear hF; intro a hF
                refine l_at hF rfl rfl rfl (x_pickT (hF.tmp 86 rfl) rfl (hF.tmp 92 rfl)) ?_; clear hF; intro a hF
                refine l_at hF rfl rfl rfl (x_assign (hF.tmp 93 rfl)) ?_; clear hF; intro a hF
                refine wpList_nil ?_
                refine hK16 _ _ ?_
                refine wp_ret ?_
                try simp only [Exit.then, Exit.inBlock]
                exact fin_ret hF (res1 hF rfl rfl) ⟨rfl, hH.mods⟩
              · have hc89 := hb89; try simp only [Bool.or_eq_true, Bool.and_eq_true, Bool.or_eq_false_iff, Bool.and_eq_false_iff, Bool.not_eq_true', Bool.not_eq_false', decide_eq_true_eq, decide_eq_false_iff_not, Bool.not_true, Bool.not_false] at hc89
                refine l_atg hF ((wanted_of hF rfl rfl rfl rfl).trans (by rw [hb89]; rfl)) rfl rfl (x_move (hF.tmp 16 rfl)) ?_; clear hF; intro a hF
                refine l_atg hF ((wanted_of hF rfl rfl rfl rfl).trans (by rw [hb89]; rfl)) rfl rfl (x_eql (hF.tmp 90 rfl) rfl) ?_; clear hF; intro a hF
                rw [decide_eq_true (err11 hc89)] at hF
                refine l_atg hF ((wanted_of hF rfl rfl rfl rfl).trans rfl) rfl rfl (x_pickF (hF.tmp 89 rfl) hb89 (hF.tmp 91 rfl)) ?_; clear hF; intro a hF
                refine l_at hF rfl rfl rfl (x_pickT (hF.tmp 86 rfl) rfl (hF.tmp 92 rfl)) ?_; clear hF; intro a hF
                refine l_at hF rfl rfl rfl (x_assign (hF.tmp 93 rfl)) ?_; clear hF; intro a hF
                refine wpList_nil ?_
                refine hK16 _ _ ?_
                refine wp_ret ?_
                try simp only [Exit.then, Exit.inBlock]
                exact fin_ret hF (res1 hF rfl rfl) ⟨rfl, hH.mods⟩
            · have hc81 := hb81; try simp only [Bool.or_eq_true, Bool.and_eq_true, Bool.or_eq_false_iff, Bool.and_eq_false_iff, Bool.not_eq_true', Bool.not_eq_false', decide_eq_true_eq, decide_eq_false_iff_not, Bool.not_true, Bool.not_false] at hc81
              refine l_atg hF ((wanted_of hF rfl rfl rfl rfl).trans (by rw [hb81]; rfl)) rfl rfl (x_move (hF.tmp 14 rfl)) ?_; clear hF; intro a hF
              refine l_atg hF ((wanted_of hF rfl rfl rfl rfl).trans (by rw [hb81]; rfl)) rfl rfl (x_eql (hF.tmp 82 rfl) rfl) ?_; clear hF; intro a hF
              rw [decide_eq_true (err11 hc81)] at hF
              refine l_atg hF ((wanted_of hF rfl rfl rfl rfl).trans rfl) rfl rfl (x_pickF (hF.tmp 81 rfl) hb81 (hF.tmp 83 rfl)) ?_; clear hF; intro a hF
              refine l_at hF rfl rfl rfl (x_pickT (hF.tmp 78 rfl) rfl (hF.tmp 84 rfl)) ?_; clear hF; intro a hF
              refine l_at hF rfl rfl rfl (x_move (hF.tmp 85 rfl)) ?_; clear hF; intro a hF
              refine l_atg hF ((wanted_of hF rfl rfl rfl rfl).trans rfl) rfl rfl (x_move (hF.tmp 16 rfl)) ?_; clear hF; intro a hF
              refine l_atg hF ((wanted_of hF rfl rfl rfl rfl).trans rfl) rfl rfl (x_eql (hF.tmp 87 rfl) rfl) ?_; clear hF; intro a hF
              refine l_atg hF ((wanted_of hF rfl rfl rfl rfl).trans rfl) rfl rfl (x_move (hF.tmp 88 rfl)) ?_; clear hF; intro a hF
              refine split_bool hF 89 rfl (fun hb89 => ?_) (fun hb89 => ?_)
              · have hc89 := hb89; try simp only [Bool.or_eq_true, Bool.and_eq_true, Bool.or_eq_false_iff, Bool.and_eq_false_iff, Bool.not_eq_true', Bool.not_eq_false', decide_eq_true_eq, decide_eq_false_iff_not, Bool.not_true, Bool.not_false] at hc89
                refine l_offg hF ((wanted_of hF rfl rfl rfl rfl).trans (by rw [hb89]; rfl)) rfl rfl ?_; clear hF; intro a hF
                refine l_offg hF ((wanted_of hF rfl rfl rfl rfl).trans (by rw [hb89]; rfl)) rfl rfl ?_; clear hF; intro a hF
                refine l_atg hF ((wanted_of hF rfl rfl rfl rfl).trans rfl) rfl rfl (x_pickT (hF.tmp 89 rfl) hb89 rfl) ?_; clear hF; intro a hF
                refine l_at hF rfl rfl rfl (x_pickT (hF.tmp 86 rfl) rfl (hF.tmp 92 rfl)) ?_; clear hF; intro a hF
                refine l_at hF rfl rfl rfl (x_assign (hF.tmp 93 rfl)) ?_; clear hF; intro a hF
                refine wpList_nil ?_
                refine hK16 _ _ ?_
                refine wp_ret ?_
                try simp only [Exit.then, Exit.inBlock]
                exact fin_ret hF (res1 hF rfl rfl) ⟨rfl, hH.mods⟩
              · have hc89 := hb89; try simp only [Bool.or_eq_true, Bool.and_eq_true, Bool.or_eq_false_iff, Bool.and_eq_false_iff, Bool.not_eq_true', Bool.not_eq_false', decide_eq_true_eq, decide_eq_false_iff_not, Bool.not_true, Bool.not_false] at hc89
                refine l_atg hF ((wanted_of hF rfl rfl rfl rfl).trans (by rw [hb89]; rfl)) rfl rfl (x_move (hF.tmp 16 rfl)) ?_; clear hF; intro a hF
                refine l_atg hF ((wanted_of hF rfl rfl rfl rfl).trans (by rw [hb89]; rfl)) rfl rfl (x_eql (hF.tmp 90 rfl) rfl) ?_; clear hF; intro a hF
                rw [decide_eq_true (err11 hc89)] at hF
                refine l_atg hF ((wanted_of hF rfl rfl rfl rfl).trans rfl) rfl rfl (x_pickF (hF.tmp 89 rfl) hb89 (hF.tmp 91 rfl)) ?_; clear hF; intro a hF
                refine l_at hF rfl rfl rfl (x_pickT (hF.tmp 86 rfl) rfl (hF.tmp 92 rfl)) ?_; clear hF; intro a hF
                refine l_at hF rfl rfl rfl (x_assign (hF.tmp 93 rfl)) ?_; clear hF; intro a hF
                refine wpList_nil ?_
                refine hK16 _ _ ?_
                refine wp_ret ?_
                try simp only [Exit.then, Exit.inBlock]
                exact fin_ret hF (res1 hF rfl rfl) ⟨rfl, hH.mods⟩
          · have hc73 := hb73; try simp only [Bool.or_eq_true, Bool.and_eq_true, Bool.or_eq_false_iff, Bool.and_eq_false_iff, Bool.not_eq_true', Bool.not_eq_false', decide_eq_true_eq, decide_eq_false_iff_not, Bool.not_true, Bool.not_false] at hc73
            refine l_atg hF ((wanted_of hF rfl rfl rfl rfl).trans (by rw [hb73]; rfl)) rfl rfl (x_move (hF.tmp 16 rfl)) ?_; clear hF; intro a hF
            refine l_atg hF ((wanted_of hF rfl rfl rfl rfl).trans (by rw [hb73]; rfl)) rfl rfl (x_neq (hF.tmp 74 rfl) rfl) ?_; clear hF; intro a hF
            refine l_at hF rfl rfl rfl (x_pickF (hF.tmp 73 rfl) hb73 (hF.tmp 75 rfl)) ?_; clear hF; intro a hF
            refine wpList_nil ?_
            refine hK15 _ _ ?_
            refine wp_cond_split (hF.tmp 76 rfl) (fun hc76 => ?_) (fun hc76 => ?_)
            · try simp only [Bool.or_eq_true, Bool.and_eq_true, Bool.or_eq_false_iff, Bool.and_eq_false_iff, Bool.not_eq_true', Bool.not_eq_false', decide_eq_true_eq, decide_eq_false_iff_not, Bool.not_true, Bool.not_false] at hc76
              refine wp_seq_k fun khK17 hK17 => ?_
              refine wp_region_lit ?_
              refine wpList_plain rfl fun K hK => ?_
              refine w_call hF (x_enter Try.func14 (by kernel_rfl) rfl (by simp only [List.map_toArray, List.map_cons, List.map_nil] <;> rfl)) (alive_calls _) rfl rfl ?_
              rintro _ w ⟨rfl, hm_⟩; refine ⟨_, rfl, ?_⟩; clear hF; intro a hF; have hH := hH.same hm_
              refine hK _ _ ?_; clear hK K
              refine l_at hF rfl rfl rfl (x_move (hF.tmp 77 rfl)) ?_; clear hF; intro a hF
              refine l_atg hF ((wanted_of hF rfl rfl rfl rfl).trans rfl) rfl rfl (x_move (hF.tmp 14 rfl)) ?_; clear hF; intro a hF
              refine l_atg hF ((wanted_of hF rfl rfl rfl rfl).trans rfl) rfl rfl (x_eql (hF.tmp 79 rfl) rfl) ?_; clear hF; intro a hF
              refine l_atg hF ((wanted_of hF rfl rfl rfl rfl).trans rfl) rfl rfl (x_move (hF.tmp 80 rfl)) ?_; clear hF; intro a hF
              refine split_bool hF 81 rfl (fun hb81 => ?_) (fun hb81 => ?_)
              · have hc81 := hb81; try simp only [Bool.or_eq_true, Bool.and_eq_true, Bool.or_eq_false_iff, Bool.and_eq_false_iff, Bool.not_eq_true', Bool.not_eq_false', decide_eq_true_eq, decide_eq_false_iff_not, Bool.not_true, Bool.not_false] at hc81
                refine l_offg hF ((wanted_of hF rfl rfl rfl rfl).trans (by rw [hb81]; rfl)) rfl rfl ?_; clear hF; intro a hF
                refine l_offg hF ((wanted_of hF rfl rfl rfl rfl).trans (by rw [hb81]; rfl)) rfl rfl ?_; clear hF; intro a hF
                refine l_atg hF ((wanted_of hF rfl rfl rfl rfl).trans rfl) rfl rfl (x_pickT (hF.tmp 81 rfl) hb81 rfl) ?_; clear hF; intro a hF
                refine l_at hF rfl rfl rfl (x_pickT (hF.tmp 78 rfl) rfl (hF.tmp 84 rfl)) ?_; clear hF; intro a hF
                refine l_at hF rfl rfl rfl (x_move (hF.tmp 85 rfl)) ?_; clear hF; intro a hF
                refine l_atg hF ((wanted_of hF rfl rfl rfl rfl).trans rfl) rfl rfl (x_move (hF.tmp 16 rfl)) ?_; clear hF; intro a hF
                refine l_atg hF ((wanted_of hF rfl rfl rfl rfl).trans rfl) rfl rfl (x_eql (hF.tmp 87 rfl) rfl) ?_; clear hF; intro a hF
                refine l_atg hF ((wanted_of hF rfl rfl rfl rfl).trans rfl) rfl rfl (x_move (hF.tmp 88 rfl)) ?_; clear hF; intro a hF
                refine split_bool hF 89 rfl (fun hb89 => ?_) (fun hb89 => ?_)
                · have hc89 := hb89; try simp only [Bool.or_eq_true, Bool.and_eq_true, Bool.or_eq_false_iff, Bool.and_eq_false_iff, Bool.not_eq_true', Bool.not_eq_false', decide_eq_true_eq, decide_eq_false_iff_not, Bool.not_true, Bool.not_false] at hc89
                  refine l_offg hF ((wanted_of hF rfl rfl rfl rfl).trans (by rw [hb89]; rfl)) rfl rfl ?_; clear hF; intro a hF
                  refine l_offg hF ((wanted_of hF rfl rfl rfl rfl).trans (by rw [hb89]; rfl)) rfl rfl ?_; clear hF; intro a hF
                  refine l_atg hF ((wanted_of hF rfl rfl rfl rfl).trans rfl) rfl rfl (x_pickT (hF.tmp 89 rfl) hb89 rfl) ?_; clear hF; intro a hF
                  refine l_at hF rfl rfl rfl (x_pickT (hF.tmp 86 rfl) rfl (hF.tmp 92 rfl)) ?_; clear hF; intro a hF
                  refine l_at hF rfl rfl rfl (x_assign (hF.tmp 93 rfl)) ?_; clear hF; intro a hF
                  refine wpList_nil ?_
                  refine hK17 _ _ ?_
                  refine wp_ret ?_
                  try simp only [Exit.then, Exit.inBlock]
                  exact fin_ret hF (res1 hF rfl rfl) ⟨rfl, hH.mods⟩
                · have hc89 := hb89; try simp only [Bool.or_eq_true, Bool.and_eq_true, Bool.or_eq_false_iff, Bool.and_eq_false_iff, Bool.not_eq_true', Bool.not_eq_false', decide_eq_true_eq, decide_eq_false_iff_not, Bool.not_true, Bool.not_false] at hc89
                  refine l_atg hF ((wanted_of hF rfl rfl rfl rfl).trans (by rw [hb89]; rfl)) rfl rfl (x_move (hF.tmp 16 rfl)) ?_; clear hF; intro a hF
                  refine l_atg hF ((wanted_of hF rfl rfl rfl rfl).trans (by rw [hb89]; rfl)) rfl rfl (x_eql (hF.tmp 90 rfl) rfl) ?_; clear hF; intro a hF
                  rw [decide_eq_true (err11 hc89)] at hF
                  refine l_atg hF ((wanted_of hF rfl rfl rfl rfl).trans rfl) rfl rfl (x_pickF (hF.tmp 89 rfl) hb89 (hF.tmp 91 rfl)) ?_; clear hF; intro a hF
                  refine l_at hF rfl rfl rfl (x_pickT (hF.tmp 86 rfl) rfl (hF.tmp 92 rfl)) ?_; clear hF; intro a hF
                  refine l_at hF rfl rfl rfl (x_assign (hF.tmp 93 rfl)) ?_; clear hF; intro a hF
                  refine wpList_nil ?_
                  refine hK17 _ _ ?_
                  refine wp_ret ?_
                  try simp only [Exit.then, Exit.inBlock]
                  exact fin_ret hF (res1 hF rfl rfl) ⟨rfl, hH.mods⟩
              · have hc81 := hb81; try simp only [Bool.or_eq_true, Bool.and_eq_true, Bool.or_eq_false_iff, Bool.and_eq_false_iff, Bool.not_eq_true', Bool.not_eq_false', decide_eq_true_eq, decide_eq_false_iff_not, Bool.not_true, Bool.not_false] at hc81
                refine l_atg hF ((wanted_of hF rfl rfl rfl rfl).trans (by rw [hb81]; rfl)) rfl rfl (x_move (hF.tmp 14 rfl)) ?_; clear hF; intro a hF
                refine l_atg hF ((wanted_of hF rfl rfl rfl rfl).trans (by rw [hb81]; rfl)) rfl rfl (x_eql (hF.tmp 82 rfl) rfl) ?_; clear hF; intro a hF
                rw [decide_eq_true (err11 hc81)] at hF
                refine l_atg hF ((wanted_of hF rfl rfl rfl rfl).trans rfl) rfl rfl (x_pickF (hF.tmp 81 rfl) hb81 (hF.tmp 83 rfl)) ?_; clear hF; intro a hF
                refine l_at hF rfl rfl rfl (x_pickT (hF.tmp 78 rfl) rfl (hF.tmp 84 rfl)) ?_; clear hF; intro a hF
                refine l_at hF rfl rfl rfl (x_move (hF.tmp 85 rfl)) ?_; clear hF; intro a hF
                refine l_atg hF ((wanted_of hF rfl rfl rfl rfl).trans rfl) rfl rfl (x_move (hF.tmp 16 rfl)) ?_; clear hF; intro a hF
                refine l_atg hF ((wanted_of hF rfl rfl rfl rfl).trans rfl) rfl rfl (x_eql (hF.tmp 87 rfl) rfl) ?_; clear hF; intro a hF
                refine l_atg hF ((wanted_of hF rfl rfl rfl rfl).trans rfl) rfl rfl (x_move (hF.tmp 88 rfl)) ?_; clear hF; intro a hF
                refine split_bool hF 89 rfl (fun hb89 => ?_) (fun hb89 => ?_)
                · have hc89 := hb89; try simp only [Bool.or_eq_true, Bool.and_eq_true, Bool.or_eq_false_iff, Bool.and_eq_false_iff, Bool.not_eq_true', Bool.not_eq_false', decide_eq_true_eq, decide_eq_false_iff_not, Bool.not_true, Bool.not_false] at hc89
                  refine l_offg hF ((wanted_of hF rfl rfl rfl rfl).trans (by rw [hb89]; rfl)) rfl rfl ?_; clear hF; intro a hF
                  refine l_offg hF ((wanted_of hF rfl rfl rfl rfl).trans (by rw [hb89]; rfl)) rfl rfl ?_; clear hF; intro a hF
                  refine l_atg hF ((wanted_of hF rfl rfl rfl rfl).trans rfl) rfl rfl (x_pickT (hF.tmp 89 rfl) hb89 rfl) ?_; clear hF; intro a hF
                  refine l_at hF rfl rfl rfl (x_pickT (hF.tmp 86 rfl) rfl (hF.tmp 92 rfl)) ?_; clear hF; intro a hF
                  refine l_at hF rfl rfl rfl (x_assign (hF.tmp 93 rfl)) ?_; clear hF; intro a hF
                  refine wpList_nil ?_
                  refine hK17 _ _ ?_
                  refine wp_ret ?_
                  try simp only [Exit.then, Exit.inBlock]
                  exact fin_ret hF (res1 hF rfl rfl) ⟨rfl, hH.mods⟩
                · have hc89 := hb89; try simp only [Bool.or_eq_true, Bool.and_eq_true, Bool.or_eq_false_iff, Bool.and_eq_false_iff, Bool.not_eq_true', Bool.not_eq_false', decide_eq_true_eq, decide_eq_false_iff_not, Bool.not_true, Bool.not_false] at hc89
                  refine l_atg hF ((wanted_of hF rfl rfl rfl rfl).trans (by rw [hb89]; rfl)) rfl rfl (x_move (hF.tmp 16 rfl)) ?_; clear hF; intro a hF
                  refine l_atg hF ((wanted_of hF rfl rfl rfl rfl).trans (by rw [hb89]; rfl)) rfl rfl (x_eql (hF.tmp 90 rfl) rfl) ?_; clear hF; intro a hF
                  rw [decide_eq_true (err11 hc89)] at hF
                  refine l_atg hF ((wanted_of hF rfl rfl rfl rfl).trans rfl) rfl rfl (x_pickF (hF.tmp 89 rfl) hb89 (hF.tmp 91 rfl)) ?_; clear hF; intro a hF
                  refine l_at hF rfl rfl rfl (x_pickT (hF.tmp 86 rfl) rfl (hF.tmp 92 rfl)) ?_; clear hF; intro a hF
                  refine l_at hF rfl rfl rfl (x_assign (hF.tmp 93 rfl)) ?_; clear hF; intro a hF
                  refine wpList_nil ?_
                  refine hK17 _ _ ?_
                  refine wp_ret ?_
                  try simp only [Exit.then, Exit.inBlock]
                  exact fin_ret hF (res1 hF rfl rfl) ⟨rfl, hH.mods⟩
            · try simp only [Bool.or_eq_true, Bool.and_eq_true, Bool.or_eq_false_iff, Bool.and_eq_false_iff, Bool.not_eq_true', Bool.not_eq_false', decide_eq_true_eq, decide_eq_false_iff_not, Bool.not_true, Bool.not_false] at hc76
              have hX := enc_zero hc73
              have hY := enc_zero hc76
              rw [hX.1, Option.getD_some] at hF
              rw [hX.1, Option.getD_some] at hH
              rw [hY.1, Option.getD_some] at hF
              rw [hY.1, Option.getD_some] at hH
              have hlx := enc_len hX.2.1; have hly := enc_len hY.2.1; have hnx := hX.2.2; have hny := hY.2.2
              have hbx2 := byt_enc hX.2.1 hbx; have hby2 := byt_enc hY.2.1 hbb
              refine wp_skip ?_
              refine hK14 _ _ ?_
              refine wp_seq_k fun khK18 hK18 => ?_
              refine wp_region_lit ?_
              refine l_at hF rfl rfl rfl (x_move (hF.tmp 13 rfl)) ?_; clear hF; intro a hF
              refine wpList_plain rfl fun K hK => ?_
              refine w_call hF (x_enter Try.func22 (by kernel_rfl) rfl (by simp only [List.map_toArray, List.map_cons, List.map_nil, hF.tmp 95 rfl] <;> rfl)) (dec_calls _ (Row.rd (ok' := fun k_ => (fun _ => False) k_ ∨ (.slice Ar63 (encI xs).length cr63 : Value).ownBlock = some k_) (hH.row 63 rfl) (fun _ hk_ _ => .inl hk_) (fun _ hk_ => .inr hk_)) (hbx2)) rfl rfl ?_
              rintro _ w ⟨vr96, rfl, hm_, okr96, hr_, hf_, ho_⟩; refine ⟨_, rfl, ?_⟩; clear hF; intro a hF; have hH := hH.newRow 96 hm_ hr_ hf_ ho_; obtain ⟨Ar96, cr96, rfl⟩ := (hH.row 96 rfl).form
              refine hK _ _ ?_; clear hK K
              rw [dec_enc hX.2.1 hX.2.2, Option.getD_some] at hF
              rw [dec_enc hX.2.1 hX.2.2, Option.getD_some] at hH
              rw [show (if (some xs).isSome = true then (0 : Int) else 12) = 0 from rfl] at hF
              refine l_at hF rfl rfl rfl (x_move (hF.tmp 96 rfl)) ?_; clear hF; intro a hF
              refine l_at hF rfl rfl rfl (x_extract (hF.tmp 94 rfl) rfl) ?_; clear hF; intro a hF
              refine l_at hF rfl rfl rfl (x_extract (hF.tmp 94 rfl) rfl) ?_; clear hF; intro a hF
              refine l_at hF rfl rfl rfl (x_assign (hF.tmp 97 rfl)) ?_; clear hF; intro a hF
              refine l_at hF rfl rfl rfl (x_assign (hF.tmp 98 rfl)) ?_; clear hF; intro a hF
              refine wpList_nil ?_
              refine hK18 _ _ ?_
              refine wp_seq_k fun khK19 hK19 => ?_
              refine wp_region_lit ?_
              refine l_at hF rfl rfl rfl (x_move (hF.tmp 17 rfl)) ?_; clear hF; intro a hF
              refine l_at hF rfl rfl rfl (x_move (hF.tmp 0 rfl)) ?_; clear hF; intro a hF
              refine wpList_plain rfl fun K hK => ?_
              refine w_call hF (x_enter Try.func24 (by kernel_rfl) rfl (by simp only [List.map_toArray, List.map_cons, List.map_nil, hF.tmp 99 rfl, hF.tmp 100 rfl] <;> rfl)) (same_calls _ (Row.rd (ok' := fun k_ => okr96 k_ ∨ (.slice Ar96 xs.length cr96 : Value).ownBlock = some k_) (hH.row 96 rfl) (fun _ hk_ _ => .inl hk_) (fun _ hk_ => .inr hk_)) ((hH.rd 901 rfl))) rfl rfl ?_
              rintro _ w ⟨rfl, hm_⟩; refine ⟨_, rfl, ?_⟩; clear hF; intro a hF; have hH := hH.same hm_
              refine hK _ _ ?_; clear hK K
              rw [sameI_refl] at hF
              refine l_at hF rfl rfl rfl (x_assign (hF.tmp 101 rfl)) ?_; clear hF; intro a hF
              refine wpList_nil ?_
              refine hK19 _ _ ?_
              refine wp_seq_k fun khK20 hK20 => ?_
              refine wp_region_lit ?_
              refine wpList_plain rfl fun K hK => ?_
              refine w_lit0 (.int .u8) 103 hF hH rfl Try.underlying22 ty5 ?_
              clear hF hH; intro a w b103 hF hH
              refine hK _ _ ?_; clear hK K
              refine l_at hF rfl rfl rfl (x_move (hF.tmp 13 rfl)) ?_; clear hF; intro a hF
              refine wpList_plain rfl fun K hK => ?_
              refine w_append 103 63 hF hH rfl Try.underlying22 ty5 rfl rfl rfl rfl (Row.rd (ok' := fun k_ => (fun _ => False) k_ ∨ (.slice Ar63 (encI xs).length cr63 : Value).ownBlock = some k_) (hH.row 63 rfl) (fun _ hk_ _ => .inl hk_) (fun _ hk_ => .inr hk_)) (by rintro k_ (hk_ | hk_); exact .inr hk_; exact .inl hk_) (hF.tmp 103 rfl) (hF.tmp 104 rfl) (by simp only [List.length_append, List.length_nil, List.length_cons] at *; omega) (by simp only [List.length_append, List.length_nil, List.length_cons, maxLen] at *; omega) (fun _ => False) (fun w' v' h => row_flat h _) (fun k_ hk_ => hk_.elim) ?_
              clear hF hH; intro a w v105 hF hH
              refine hK _ _ ?_; clear hK K
              refine l_at hF rfl rfl rfl (x_move (hF.tmp 15 rfl)) ?_; clear hF; intro a hF
              refine wpList_plain rfl fun K hK => ?_
              refine w_append 103 68 hF hH rfl Try.underlying22 ty5 rfl rfl rfl rfl (Row.rd (ok' := fun k_ => (fun _ => False) k_ ∨ (.slice Ar68 (encI ys).length cr68 : Value).ownBlock = some k_) (hH.row 68 rfl) (fun _ hk_ _ => .inl hk_) (fun _ hk_ => .inr hk_)) (by rintro k_ (hk_ | hk_); exact .inr hk_; exact .inl hk_) (hF.tmp 105 rfl) (hF.tmp 106 rfl) (by simp only [List.length_append, List.length_nil, List.length_cons] at *; omega) (by simp only [List.length_append, List.length_nil, List.length_cons, maxLen] at *; omega) (fun _ => False) (fun w' v' h => row_flat h _) (fun k_ hk_ => hk_.elim) ?_
              clear hF hH; intro a w v107 hF hH
              refine hK _ _ ?_; clear hK K
              obtain ⟨A107, c107, rfl⟩ := (hH.row 103 rfl).form
              refine wpList_plain rfl fun K hK => ?_
              refine w_call hF (x_enter Try.func22 (by kernel_rfl) rfl (by simp only [List.map_toArray, List.map_cons, List.map_nil, hF.tmp 107 rfl] <;> rfl)) (dec_calls _ (Row.rd (ok' := fun k_ => (fun _ => False) k_ ∨ (.slice A107 (([] ++ (encI xs)) ++ (encI ys)).length c107 : Value).ownBlock = some k_) (hH.row 103 rfl) (fun _ hk_ _ => .inl hk_) (fun _ hk_ => .inr hk_)) (byt_app hbx2 hby2)) rfl rfl ?_
              rintro _ w ⟨vr108, rfl, hm_, okr108, hr_, hf_, ho_⟩; refine ⟨_, rfl, ?_⟩; clear hF; intro a hF; have hH := hH.newRow 108 hm_ hr_ hf_ ho_; obtain ⟨Ar108, cr108, rfl⟩ := (hH.row 108 rfl).form
              refine hK _ _ ?_; clear hK K
              refine l_at hF rfl rfl rfl (x_move (hF.tmp 108 rfl)) ?_; clear hF; intro a hF
              refine l_at hF rfl rfl rfl (x_extract (hF.tmp 102 rfl) rfl) ?_; clear hF; intro a hF
              refine l_at hF rfl rfl rfl (x_extract (hF.tmp 102 rfl) rfl) ?_; clear hF; intro a hF
              refine l_at hF rfl rfl rfl (x_assign (hF.tmp 109 rfl)) ?_; clear hF; intro a hF
              refine l_at hF rfl rfl rfl (x_assign (hF.tmp 110 rfl)) ?_; clear hF; intro a hF
              refine wpList_nil ?_
              refine hK20 _ _ ?_
              refine wp_seq_k fun khK21 hK21 => ?_
              refine wp_region_lit ?_
              refine wpList_plain rfl fun K hK => ?_
              refine w_lit0 FE 111 hF hH rfl Try.underlying30 ty36 ?_
              clear hF hH; intro a w b111 hF hH
              refine hK _ _ ?_; clear hK K
              refine l_at hF rfl rfl rfl (x_move (hF.tmp 0 rfl)) ?_; clear hF; intro a hF
              refine wpList_plain rfl fun K hK => ?_
              refine w_append 111 901 hF hH rfl Try.underlying30 ty36 rfl rfl rfl rfl ((hH.rd 901 rfl)) (by intro k_ hk_; exact .inr hk_) (hF.tmp 111 rfl) (hF.tmp 112 rfl) (by simp only [List.length_append, List.length_nil, List.length_cons] at *; omega) (by simp only [List.length_append, List.length_nil, List.length_cons, maxLen] at *; omega) (fun k => (fun _ => False) k ∨ (fun k => k < w0.heap.size) k) (fun w' v' h => h) (by rintro k_ (hk_ | hk_); exact .inl hk_; exact .inr hk_) ?_
              clear hF hH; intro a w v113 hF hH
              refine hK _ _ ?_; clear hK K
              refine l_at hF rfl rfl rfl (x_move (hF.tmp 1 rfl)) ?_; clear hF; intro a hF
              refine wpList_plain rfl fun K hK => ?_
              refine w_append 111 903 hF hH rfl Try.underlying30 ty36 rfl rfl rfl rfl ((hH.rd 903 rfl)) (by intro k_ hk_; exact .inr hk_) (hF.tmp 113 rfl) (hF.tmp 114 rfl) (by simp only [List.length_append, List.length_nil, List.length_cons] at *; omega) (by simp only [List.length_append, List.length_nil, List.length_cons, maxLen] at *; omega) (fun k => (fun k => (fun _ => False) k ∨ (fun k => k < w0.heap.size) k) k ∨ (fun k => k < w0.heap.size) k) (fun w' v' h => h) (by rintro k_ (hk_ | hk_); exact .inl hk_; exact .inr hk_) ?_
              clear hF hH; intro a w v115 hF hH
              refine hK _ _ ?_; clear hK K
              obtain ⟨A115, c115, rfl⟩ := (hH.row 111 rfl).form
              refine l_at hF rfl rfl rfl (x_assign (hF.tmp 115 rfl)) ?_; clear hF; intro a hF
              refine wpList_nil ?_
              refine hK21 _ _ ?_
              refine wp_seq_k fun khK22 hK22 => ?_
              refine wp_region_lit ?_
              refine l_at hF rfl rfl rfl (x_move (hF.tmp 20 rfl)) ?_; clear hF; intro a hF
              refine l_at hF rfl rfl rfl (x_move (hF.tmp 22 rfl)) ?_; clear hF; intro a hF
              refine wpList_plain rfl fun K hK => ?_
              refine w_call hF (x_enter Try.func24 (by kernel_rfl) rfl (by simp only [List.map_toArray, List.map_cons, List.map_nil, hF.tmp 116 rfl, hF.tmp 117 rfl] <;> rfl)) (same_calls _ (Row.rd (ok' := fun k_ => okr108 k_ ∨ (.slice Ar108 ((decR (([] ++ encI xs) ++ encI ys)).getD []).length cr108 : Value).ownBlock = some k_) (hH.row 108 rfl) (fun _ hk_ _ => .inl hk_) (fun _ hk_ => .inr hk_)) (Row.rd (ok' := fun k_ => (fun k => (fun k => (fun _ => False) k ∨ (fun k => k < w0.heap.size) k) k ∨ (fun k => k < w0.heap.size) k) k_ ∨ (.slice A115 (([] ++ xs) ++ ys).length c115 : Value).ownBlock = some k_) (hH.row 111 rfl) (fun _ hk_ _ => .inl hk_) (fun _ hk_ => .inr hk_))) rfl rfl ?_
              rintro _ w ⟨rfl, hm_⟩; refine ⟨_, rfl, ?_⟩; clear hF; intro a hF; have hH := hH.same hm_
              refine hK _ _ ?_; clear hK K
              refine l_at hF rfl rfl rfl (x_assign (hF.tmp 118 rfl)) ?_; clear hF; intro a hF
              refine wpList_nil ?_
              refine hK22 _ _ ?_
              refine wp_seq_k fun khK23 hK23 => ?_
              refine wp_seq_k fun khK24 hK24 => ?_
              refine wp_region_lit ?_
              refine l_at hF rfl rfl rfl (x_move (hF.tmp 22 rfl)) ?_; clear hF; intro a hF
              refine l_at hF rfl rfl rfl (x_len_slice Try.underlying30 (hF.tmp 119 rfl)) ?_; clear hF; intro a hF
              refine l_at hF rfl rfl rfl (x_gtr (hF.tmp 120 rfl) rfl) ?_; clear hF; intro a hF
              refine wpList_nil ?_
              refine hK24 _ _ ?_
              refine wp_cond_split (hF.tmp 121 rfl) (fun hc121 => ?_) (fun hc121 => ?_)
              · try simp only [Bool.or_eq_true, Bool.and_eq_true, Bool.or_eq_false_iff, Bool.and_eq_false_iff, Bool.not_eq_true', Bool.not_eq_false', decide_eq_true_eq, decide_eq_false_iff_not, Bool.not_true, Bool.not_false] at hc121
                have hdn : decR (([] ++ encI xs) ++ encI ys) = none := dec_app_many hX.2.1 hY.2.1 (by simp only [List.length_append, List.length_nil] at *; omega)
                refine wp_seq_k fun khK25 hK25 => ?_
                refine wp_region_lit ?_
                refine wpList_plain rfl fun K hK => ?_
                refine w_call hF (x_enter Try.func14 (by kernel_rfl) rfl (by simp only [List.map_toArray, List.map_cons, List.map_nil] <;> rfl)) (alive_calls _) rfl rfl ?_
                rintro _ w ⟨rfl, hm_⟩; refine ⟨_, rfl, ?_⟩; clear hF; intro a hF; have hH := hH.same hm_
                refine hK _ _ ?_; clear hK K
                refine l_at hF rfl rfl rfl (x_move (hF.tmp 122 rfl)) ?_; clear hF; intro a hF
                refine l_atg hF ((wanted_of hF rfl rfl rfl rfl).trans rfl) rfl rfl (x_move (hF.tmp 18 rfl)) ?_; clear hF; intro a hF
                refine l_atg hF ((wanted_of hF rfl rfl rfl rfl).trans rfl) rfl rfl (x_eql (hF.tmp 124 rfl) rfl) ?_; clear hF; intro a hF
                rw [decide_eq_true (rfl)] at hF
                refine l_at hF rfl rfl rfl (x_pickT (hF.tmp 123 rfl) rfl (hF.tmp 125 rfl)) ?_; clear hF; intro a hF
                refine l_at hF rfl rfl rfl (x_move (hF.tmp 126 rfl)) ?_; clear hF; intro a hF
                refine l_atg hF ((wanted_of hF rfl rfl rfl rfl).trans rfl) rfl rfl (x_move (hF.tmp 19 rfl)) ?_; clear hF; intro a hF
                refine l_at hF rfl rfl rfl (x_pickT (hF.tmp 127 rfl) rfl (hF.tmp 128 rfl)) ?_; clear hF; intro a hF
                refine l_at hF rfl rfl rfl (x_move (hF.tmp 129 rfl)) ?_; clear hF; intro a hF
                refine l_atg hF ((wanted_of hF rfl rfl rfl rfl).trans rfl) rfl rfl (x_move (hF.tmp 21 rfl)) ?_; clear hF; intro a hF
                refine l_atg hF ((wanted_of hF rfl rfl rfl rfl).trans rfl) rfl rfl (x_eql (hF.tmp 131 rfl) rfl) ?_; clear hF; intro a hF
                rw [decide_eq_true (by rw [hdn]; rfl)] at hF
                refine l_at hF rfl rfl rfl (x_pickT (hF.tmp 130 rfl) rfl (hF.tmp 132 rfl)) ?_; clear hF; intro a hF
                refine l_at hF rfl rfl rfl (x_assign (hF.tmp 133 rfl)) ?_; clear hF; intro a hF
                refine wpList_nil ?_
                refine hK25 _ _ ?_
                refine wp_ret ?_
                try simp only [Exit.then, Exit.inBlock]
                exact fin_ret hF (res1 hF rfl rfl) ⟨rfl, hH.mods⟩
              · try simp only [Bool.or_eq_true, Bool.and_eq_true, Bool.or_eq_false_iff, Bool.and_eq_false_iff, Bool.not_eq_true', Bool.not_eq_false', decide_eq_true_eq, decide_eq_false_iff_not, Bool.not_true, Bool.not_false] at hc121
                have hds : decR (([] ++ encI xs) ++ encI ys) = some (([] ++ xs) ++ ys) := dec_app hX.2.1 hY.2.1 (by simp only [List.length_append, List.length_nil] at *; omega)
                have hss : sameI ((decR (([] ++ encI xs) ++ encI ys)).getD []) (([] ++ xs) ++ ys) = true := by rw [hds]; exact sameI_refl _
                refine wp_skip ?_
                refine hK23 _ _ ?_
                refine wp_seq_k fun khK26 hK26 => ?_
                refine wp_region_lit ?_
                refine wpList_plain rfl fun K hK => ?_
                refine w_call hF (x_enter Try.func14 (by kernel_rfl) rfl (by simp only [List.map_toArray, List.map_cons, List.map_nil] <;> rfl)) (alive_calls _) rfl rfl ?_
                rintro _ w ⟨rfl, hm_⟩; refine ⟨_, rfl, ?_⟩; clear hF; intro a hF; have hH := hH.same hm_
                refine hK _ _ ?_; clear hK K
                refine l_at hF rfl rfl rfl (x_move (hF.tmp 134 rfl)) ?_; clear hF; intro a hF
                refine l_atg hF ((wanted_of hF rfl rfl rfl rfl).trans rfl) rfl rfl (x_move (hF.tmp 18 rfl)) ?_; clear hF; intro a hF
                refine l_atg hF ((wanted_of hF rfl rfl rfl rfl).trans rfl) rfl rfl (x_eql (hF.tmp 136 rfl) rfl) ?_; clear hF; intro a hF
                rw [decide_eq_true (rfl)] at hF
                refine l_at hF rfl rfl rfl (x_pickT (hF.tmp 135 rfl) rfl (hF.tmp 137 rfl)) ?_; clear hF; intro a hF
                refine l_at hF rfl rfl rfl (x_move (hF.tmp 138 rfl)) ?_; clear hF; intro a hF
                refine l_atg hF ((wanted_of hF rfl rfl rfl rfl).trans rfl) rfl rfl (x_move (hF.tmp 19 rfl)) ?_; clear hF; intro a hF
                refine l_at hF rfl rfl rfl (x_pickT (hF.tmp 139 rfl) rfl (hF.tmp 140 rfl)) ?_; clear hF; intro a hF
                refine l_at hF rfl rfl rfl (x_move (hF.tmp 141 rfl)) ?_; clear hF; intro a hF
                refine l_atg hF ((wanted_of hF rfl rfl rfl rfl).trans rfl) rfl rfl (x_move (hF.tmp 21 rfl)) ?_; clear hF; intro a hF
                refine l_atg hF ((wanted_of hF rfl rfl rfl rfl).trans rfl) rfl rfl (x_eql (hF.tmp 143 rfl) rfl) ?_; clear hF; intro a hF
                rw [decide_eq_true (by rw [hds]; rfl)] at hF
                refine l_at hF rfl rfl rfl (x_pickT (hF.tmp 142 rfl) rfl (hF.tmp 144 rfl)) ?_; clear hF; intro a hF
                refine l_at hF rfl rfl rfl (x_move (hF.tmp 145 rfl)) ?_; clear hF; intro a hF
                refine l_atg hF ((wanted_of hF rfl rfl rfl rfl).trans rfl) rfl rfl (x_move (hF.tmp 23 rfl)) ?_; clear hF; intro a hF
                rw [hss] at hF
                refine l_at hF rfl rfl rfl (x_pickT (hF.tmp 146 rfl) rfl (hF.tmp 147 rfl)) ?_; clear hF; intro a hF
                refine l_at hF rfl rfl rfl (x_assign (hF.tmp 148 rfl)) ?_; clear hF; intro a hF
                refine wpList_nil ?_
                refine hK26 _ _ ?_
                refine wp_ret ?_
                try simp only [Exit.then, Exit.inBlock]
                exact fin_ret hF (res1 hF rfl rfl) ⟨rfl, hH.mods⟩
        refine wp_cond_split (hF.tmp 46 rfl) (fun hc46 => ?_) (fun hc46 => ?_)
        · try simp only [Bool.or_eq_true, Bool.and_eq_true, Bool.or_eq_false_iff, Bool.and_eq_false_iff, Bool.not_eq_true', Bool.not_eq_false', decide_eq_true_eq, decide_eq_false_iff_not, Bool.not_true, Bool.not_false] at hc46
          obtain ⟨dl, hdl⟩ := dec_zero hc46
          have hen := enc_dec hby hdl
          rw [hdl, Option.getD_some] at hF
          rw [hdl, Option.getD_some] at hH
          refine wp_seq_k fun khK27 hK27 => ?_
          refine wp_region_lit ?_
          refine l_at hF rfl rfl rfl (x_move (hF.tmp 9 rfl)) ?_; clear hF; intro a hF
          refine wpList_plain rfl fun K hK => ?_
          refine w_call hF (x_enter Try.func15 (by kernel_rfl) rfl (by simp only [List.map_toArray, List.map_cons, List.map_nil, hF.tmp 48 rfl] <;> rfl)) (enc_calls _ (Row.rd (ok' := fun k_ => okr41 k_ ∨ (.slice Ar41 dl.length cr41 : Value).ownBlock = some k_) (hH.row 41 rfl) (fun _ hk_ _ => .inl hk_) (fun _ hk_ => .inr hk_))) rfl rfl ?_
          rintro _ w ⟨vr50, rfl, hm_, hr_⟩; refine ⟨_, rfl, ?_⟩; clear hF; intro a hF; have hH := Hp.rowOut hH 50 hm_ hr_; obtain ⟨Ar50, cr50, rfl⟩ := (hH.row 50 rfl).form
          refine hK _ _ ?_; clear hK K
          rw [hen, Option.getD_some] at hF
          rw [hen, Option.getD_some] at hH
          rw [show (if (some bs).isSome = true then (0 : Int) else 11) = 0 from rfl] at hF
          refine l_at hF rfl rfl rfl (x_move (hF.tmp 49 rfl)) ?_; clear hF; intro a hF
          refine l_at hF rfl rfl rfl (x_extract (hF.tmp 47 rfl) rfl) ?_; clear hF; intro a hF
          refine l_at hF rfl rfl rfl (x_extract (hF.tmp 47 rfl) rfl) ?_; clear hF; intro a hF
          refine l_at hF rfl rfl rfl (x_assign (hF.tmp 50 rfl)) ?_; clear hF; intro a hF
          refine l_at hF rfl rfl rfl (x_assign (hF.tmp 51 rfl)) ?_; clear hF; intro a hF
          refine wpList_nil ?_
          refine hK27 _ _ ?_
          refine wp_seq_k fun khK28 hK28 => ?_
          refine wp_region_lit ?_
          refine l_at hF rfl rfl rfl (x_move (hF.tmp 12 rfl)) ?_; clear hF; intro a hF
          refine l_at hF rfl rfl rfl (x_neq (hF.tmp 52 rfl) rfl) ?_; clear hF; intro a hF
          rw [decide_eq_true rfl, Bool.not_true] at hF
          refine l_at hF rfl rfl rfl (x_move (hF.tmp 53 rfl)) ?_; clear hF; intro a hF
          refine l_atg hF ((wanted_of hF rfl rfl rfl rfl).trans rfl) rfl rfl (x_move (hF.tmp 11 rfl)) ?_; clear hF; intro a hF
          refine l_atg hF ((wanted_of hF rfl rfl rfl rfl).trans rfl) rfl rfl (x_b2s Try.underlying22 Try.underlying5 Try.underlying9 (Row.rd (ok' := fun k_ => (fun _ => False) k_ ∨ (.slice Ar50 bs.length cr50 : Value).ownBlock = some k_) (hH.row 50 rfl) (fun _ hk_ _ => .inl hk_) (fun _ hk_ => .inr hk_)) (hF.tmp 55 rfl)) ?_; clear hF; intro a hF
          refine l_atg hF ((wanted_of hF rfl rfl rfl rfl).trans rfl) rfl rfl (x_move (hF.tmp 2 rfl)) ?_; clear hF; intro a hF
          refine l_atg hF ((wanted_of hF rfl rfl rfl rfl).trans rfl) rfl rfl (x_b2s Try.underlying22 Try.underlying5 Try.underlying9 ((hH.rd 902 rfl)) (hF.tmp 57 rfl)) ?_; clear hF; intro a hF
          refine l_atg hF ((wanted_of hF rfl rfl rfl rfl).trans rfl) rfl rfl (x_nes (hF.tmp 56 rfl) (hF.tmp 58 rfl)) ?_; clear hF; intro a hF
          rw [decide_eq_true rfl, Bool.not_true] at hF
          refine l_at hF rfl rfl rfl (x_pickF (hF.tmp 54 rfl) rfl (hF.tmp 59 rfl)) ?_; clear hF; intro a hF
          refine wpList_nil ?_
          refine hK28 _ _ ?_
          refine wp_cond_false (hF.tmp 60 rfl) ?_
          refine wp_skip ?_
          exact hJ46 _ _  ((hF.bare.add hF 1 rfl).add hF 0 rfl) (hH.sub _ (sub_cons (sub_cons (sub_cons (sub_nil _) 902 rfl) 903 rfl) 901 rfl))
        · try simp only [Bool.or_eq_true, Bool.and_eq_true, Bool.or_eq_false_iff, Bool.and_eq_false_iff, Bool.not_eq_true', Bool.not_eq_false', decide_eq_true_eq, decide_eq_false_iff_not, Bool.not_true, Bool.not_false] at hc46
          refine wp_skip ?_
          exact hJ46 _ _  ((hF.bare.add hF 1 rfl).add hF 0 rfl) (hH.sub _ (sub_cons (sub_cons (sub_cons (sub_nil _) 902 rfl) 903 rfl) 901 rfl))

end Go.Proofs.Ytjcpjkdadigkpaa.Cod
