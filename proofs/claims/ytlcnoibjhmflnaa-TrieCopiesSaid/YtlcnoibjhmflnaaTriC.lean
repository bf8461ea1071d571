/- TrieCopies. -/
import Derived.Test.YtlcnoibjhmflnaaTriR
set_option linter.unusedVariables false
set_option linter.unusedSimpArgs false
namespace Go.Proofs.Ytlcnoibjhmflnaa.Act
open Go.RowKit Go.Proofs.Ytlcnoibjhmflnaa.Sx Go.Sort Go.Proofs.Ytlcnoibjhmflnaa.Cod
theorem walkL_all2 {l : List Ent} (h : l.length ≤ 240) : walkL l [] 1000 = l := by
  unfold walkL; rw [if_neg (by decide), underL_nil, List.take_of_length_le (by show _ ≤ 1000; omega)]
theorem drop_drop9 {l : List Ent} {i : Nat} (hs : Sorted l) (h : i < l.length) : dropL (l.drop i) (gtent l (i : Int)).1 = l.drop (i + 1) := by
  have e : l.drop i = ge9 l i :: l.drop (i + 1) := by
    rw [List.drop_eq_getElem_cons h]; unfold ge9; rw [List.getD_eq_getElem?_getD, List.getElem?_eq_getElem h]; rfl
  have hs2 : (ge9 l i :: l.drop (i + 1)).Pairwise (fun a b => lxl a.1 b.1 = true) := e ▸ (List.Pairwise.drop hs)
  rw [e]
  unfold dropL
  rw [List.filter_cons_of_neg (by show ¬ (!decide ((ge9 l i).1 = (ge9 l i).1)) = true; simp), List.filter_eq_self]
  intro x hx
  have h1 := lxl_ne ((List.pairwise_cons.1 hs2).1 x hx)
  show (!decide (x.1 = (ge9 l i).1)) = true
  simpa using fun h2 => h1 h2.symm
theorem al_drop9 {l : List Ent} {i : Nat} (hs : Sorted l) (h : i < l.length) : al (l.drop i) (gtent l (i : Int)).1 = some (gtent l (i : Int)).2 := by
  refine al_of_mem (Sorted.keys (List.Pairwise.drop hs)) ?_
  rw [List.drop_eq_getElem_cons h]
  have : gtent l (i : Int) = l[i] := by show l.getD i ([], []) = _; rw [List.getD_eq_getElem?_getD, List.getElem?_eq_getElem h]; rfl
  rw [this]; exact List.mem_cons_self ..
theorem al_drop10 {l : List Ent} {i : Nat} (hs : Sorted l) (h : i < l.length) : al (l.drop (i + 1)) (gtent l (i : Int)).1 = none := by
  rw [← drop_drop9 hs h]
  cases h9 : al (dropL (l.drop i) (gtent l (i : Int)).1) (gtent l (i : Int)).1 with
  | none => rfl
  | some x => exact absurd rfl ((mem_dropL _).1 (al_mem h9)).2
set_option maxRecDepth 100000 in
set_option maxHeartbeats 1000000 in
theorem tCopies_calls (w0 : World) {script : List TactD} {ok : Nat → Prop} {A : Option Addr} {c : Nat} (hr : Rd TactE w0 ok A script c) (hB : ∀ x ∈ script, TactB x) {thn : List TactD} {ok2 : Nat → Prop} {A2 : Option Addr} {c2 : Nat} (hr2 : Rd TactE w0 ok2 A2 thn c2) (hB2 : ∀ x ∈ thn, TactB x) : Calls Try.prog 8 #[.slice A script.length c, .slice A2 thn.length c2] w0 fun e w' => e = .returned (.bool true) ∧ Mods (fun _ => False) w0 w' := by
  refine calls_of_wp Try.func8 rfl ?_
  have hF := Fr.enter #[.slice A script.length c, .slice A2 thn.length c2] 105 (slotsOf [.slice A script.length c, .slice A2 thn.length c2] 0) (Nat.le_of_ble_eq_true rfl) (fun i v h => by have h2 := (get_slotsOf _ 0 i v h).2; simpa only [List.getElem?_toArray, Nat.sub_zero] using h2)
  have hH := Hp.nil (fun _ => False) w0
  rw [Try.ntmps8]
  revert hF; generalize (⟨(#[.slice A script.length c, .slice A2 thn.length c2] : Array Value) ++ Array.replicate (105 - (#[.slice A script.length c, .slice A2 thn.length c2] : Array Value).size) undef, []⟩ : Act) = a; intro hF
  have hH := hH.arg 901 hr.all (fun _ h => ⟨h, fun h => h⟩)
  have hle901 := hr.le; unfold maxLen at hle901
  have hH := hH.arg 902 hr2.all (fun _ h => ⟨h, fun h => h⟩)
  have hle902 := hr2.le; unfold maxLen at hle902
  refine wp_seq_k fun khK1 hK1 => ?_
  refine wp_region_lit ?_
  refine l_at hF rfl rfl rfl (x_assign rfl) ?_; clear hF; intro a hF
  refine wpList_nil ?_
  refine hK1 _ _ ?_
  refine wp_seq_k fun khK2 hK2 => ?_
  refine wp_region_lit ?_
  refine l_at hF rfl rfl rfl (x_move (hF.tmp 0 rfl)) ?_; clear hF; intro a hF
  refine wpList_plain rfl fun K hK => ?_
  refine w_call hF (x_enter Try.func9 (by kernel_rfl) rfl (by simp only [List.map_toArray, List.map_cons, List.map_nil, hF.tmp 14 rfl] <;> rfl)) (built_calls _ ((hH.rd 901 rfl)) hB) rfl rfl ?_
  rintro _ w ⟨tb, X, l, rfl, hX, hl120, hm_, hxo_, hxn_, hxr_⟩; refine ⟨_, rfl, ?_⟩; clear hF; intro a hF; have hH := hH.newX 100 hm_ hxo_ hxn_ hxr_
  refine hK _ _ ?_; clear hK K
  refine l_at hF rfl rfl rfl (x_assign (hF.tmp 15 rfl)) ?_; clear hF; intro a hF
  refine wpList_nil ?_
  refine hK2 _ _ ?_
  refine wp_seq_k fun khK3 hK3 => ?_
  refine wp_seq_k fun khK4 hK4 => ?_
  refine wp_region_lit ?_
  refine l_at hF rfl rfl rfl (x_move (hF.tmp 5 rfl)) ?_; clear hF; intro a hF
  refine l_at hF rfl rfl rfl (x_ptrnil Try.underlying23 (hF.tmp 16 rfl) rfl) ?_; clear hF; intro a hF
  refine wpList_nil ?_
  refine hK4 _ _ ?_
  refine wp_cond_false (hF.tmp 17 rfl) ?_
  refine wp_skip ?_
  refine hK3 _ _ ?_
  refine wp_seq_k fun khK5 hK5 => ?_
  refine wp_region_lit ?_
  refine l_at hF rfl rfl rfl (x_move (hF.tmp 5 rfl)) ?_; clear hF; intro a hF
  refine wpList_plain rfl fun K hK => ?_
  refine w_call hF (x_enter Try.func24 (by kernel_rfl) rfl (by simp only [List.map_toArray, List.map_cons, List.map_nil, hF.tmp 18 rfl] <;> rfl)) (copy_calls _ hX (hH.okX 100 rfl)) rfl rfl ?_
  rintro _ w ⟨ub, U0, rfl, hU0, hm_, hyo_, hyn_, hyr_⟩; refine ⟨_, rfl, ?_⟩; clear hF; intro a hF; have hH := hH.one hm_ 200 U0 (fun k hk => hk.elim) hyo_.holds (fun k hk => .inr (hyn_ k hk)) (fun k hk => .inr (.inl ⟨100, _, rfl, hyr_ k hk⟩)) hyo_.inb hyo_.self
  refine hK _ _ ?_; clear hK K
  refine l_at hF rfl rfl rfl (x_assign (hF.tmp 19 rfl)) ?_; clear hF; intro a hF
  refine wpList_nil ?_
  refine hK5 _ _ ?_
  refine wp_seq_k fun khK6 hK6 => ?_
  refine wp_seq_k fun khK7 hK7 => ?_
  refine wp_region_lit ?_
  refine l_at hF rfl rfl rfl (x_move (hF.tmp 6 rfl)) ?_; clear hF; intro a hF
  refine l_at hF rfl rfl rfl (x_ptrnil Try.underlying23 (hF.tmp 20 rfl) rfl) ?_; clear hF; intro a hF
  refine wpList_nil ?_
  refine hK7 _ _ ?_
  refine wp_cond_false (hF.tmp 21 rfl) ?_
  refine wp_skip ?_
  refine hK6 _ _ ?_
  refine wp_seq_k fun khK8 hK8 => ?_
  refine wp_region_lit ?_
  refine l_at hF rfl rfl rfl (x_move (hF.tmp 5 rfl)) ?_; clear hF; intro a hF
  refine wpList_plain rfl fun K hK => ?_
  refine w_call hF (x_enter Try.func10 (by kernel_rfl) rfl (by simp only [List.map_toArray, List.map_cons, List.map_nil, hF.tmp 22 rfl] <;> kernel_rfl)) (walk_calls (pre := ([] : List Int)) _ hX (hH.okX 100 rfl) (by unfold Byte; decide) (by decide) (most := 120) (by omega) (by omega) (by omega) (by unfold kmax; omega)) rfl rfl ?_
  rintro _ w ⟨vr60, rfl, hm_, hr_⟩; refine ⟨_, rfl, ?_⟩; clear hF; intro a hF; have hH := Hp.rowOut hH 60 hm_ hr_; obtain ⟨Ar60, cr60, rfl⟩ := (hH.row 60 rfl).form
  refine hK _ _ ?_; clear hK K
  rw [walkL_all hl120] at hF hH
  have hH := hH.freeze 60 rfl (fun kb => (Value.slice Ar60 l.length cr60).ownBlock = some kb) (fun kb => ⟨fun h => .inr h, fun h => h.resolve_left id⟩)
  refine wpList_plain rfl fun K hK => ?_
  refine w_call hF (x_enter Try.func18 (by kernel_rfl) rfl (by simp only [List.map_toArray, List.map_cons, List.map_nil, hF.tmp 23 rfl] <;> rfl)) (told_calls _ ((hH.rd 60 rfl)) (by simp only [List.length_nil] at *; omega)) rfl rfl ?_
  rintro _ w ⟨vr61, rfl, hm_, hr_⟩; refine ⟨_, rfl, ?_⟩; clear hF; intro a hF; have hH := Hp.rowOut hH 61 hm_ hr_; obtain ⟨Ar61, cr61, rfl⟩ := (hH.row 61 rfl).form
  refine hK _ _ ?_; clear hK K
  have hH := hH.freeze 61 rfl (fun kb => (Value.slice Ar61 l.length cr61).ownBlock = some kb) (fun kb => ⟨fun h => .inr h, fun h => h.resolve_left id⟩)
  refine l_at hF rfl rfl rfl (x_assign (hF.tmp 24 rfl)) ?_; clear hF; intro a hF
  refine wpList_nil ?_
  refine hK8 _ _ ?_
  refine wp_seq_k fun khK9 hK9 => ?_
  refine wp_region_lit ?_
  refine l_at hF rfl rfl rfl (x_move (hF.tmp 5 rfl)) ?_; clear hF; intro a hF
  refine wpList_plain rfl fun K hK => ?_
  refine w_call hF (x_enter Try.func19 (by kernel_rfl) rfl (by simp only [List.map_toArray, List.map_cons, List.map_nil, hF.tmp 25 rfl] <;> rfl)) (nodes_calls _ hX (hH.okX 100 rfl)) rfl rfl ?_
  rintro _ w ⟨rfl, hm_⟩; refine ⟨_, rfl, ?_⟩; clear hF; intro a hF; have hH := hH.same hm_
  refine hK _ _ ?_; clear hK K
  refine l_at hF rfl rfl rfl (x_assign (hF.tmp 26 rfl)) ?_; clear hF; intro a hF
  refine wpList_nil ?_
  refine hK9 _ _ ?_
  refine wp_seq_k fun khK10 hK10 => ?_
  refine wp_seq_k fun khK11 hK11 => ?_
  refine wp_region_lit ?_
  refine l_at hF rfl rfl rfl (x_assign rfl) ?_; clear hF; intro a hF
  refine wpList_nil ?_
  refine hK11 _ _ ?_
  refine wp_block ?_
  refine wp_loop_ghost (fun n_ a w => ∃ i : Nat, ∃ U_ : Asn, ∃ m : List Ent, n_ = thn.length - i ∧ (i ≤ thn.length ∧ i ≤ 120) ∧ (TrieA 58 62 9 ub m U_) ∧ (m.length ≤ 120 + i) ∧ Fr 105 a [(1, .slice A2 thn.length c2), (5, .pointer (some ⟨tb, 0, none⟩)), (6, .pointer (some ⟨ub, 0, none⟩)), (7, .slice Ar61 l.length cr61), (8, .int .i64 (nodesL l : Int)), (9, .int .i64 (i : Int))] ∧ Hp (fun _ => False) w0 w [(901, .rd_ TactE A script c (fun k => k < w0.heap.size)), (902, .rd_ TactE A2 thn c2 (fun k => k < w0.heap.size)), (100, X), (200, U_), (60, .rd_ TentE Ar60 l cr60 (fun kb => (Value.slice Ar60 l.length cr60).ownBlock = some kb)), (61, .rd_ TentE Ar61 l cr61 (fun kb => (Value.slice Ar61 l.length cr61).ownBlock = some kb))]) (thn.length) ?_ ?_
  · exact ⟨0, U0, l, rfl, ⟨by omega, by omega⟩, hU0, (by omega), ((((((hF.bare.add hF 9 rfl).add hF 8 rfl).add hF 7 rfl).add hF 6 rfl).add hF 5 rfl).add hF 1 rfl), hH.sub _ (sub_cons (sub_cons (sub_cons (sub_cons (sub_cons (sub_cons (sub_nil _) 61 rfl) 60 rfl) 200 rfl) 100 rfl) 902 rfl) 901 rfl)⟩
  · rintro _ a w ⟨i, U_, m, rfl, hq0_0, hq0_1, hq0_2, hF, hH⟩
    refine wp_seq_k fun khK12 hK12 => ?_
    refine wp_seq_k fun khK13 hK13 => ?_
    refine wp_region_lit ?_
    refine l_at hF rfl rfl rfl (x_move (hF.tmp 9 rfl)) ?_; clear hF; intro a hF
    refine l_at hF rfl rfl rfl (x_move (hF.tmp 1 rfl)) ?_; clear hF; intro a hF
    refine l_at hF rfl rfl rfl (x_len_slice Try.underlying22 (hF.tmp 28 rfl)) ?_; clear hF; intro a hF
    refine l_at hF rfl rfl rfl (x_lss (hF.tmp 27 rfl) (hF.tmp 29 rfl)) ?_; clear hF; intro a hF
    refine l_at hF rfl rfl rfl (x_move (hF.tmp 30 rfl)) ?_; clear hF; intro a hF
    refine split_bool hF 31 rfl (fun hb31 => ?_) (fun hb31 => ?_)
    · have hc31 := hb31; try simp only [Bool.or_eq_true, Bool.and_eq_true, Bool.or_eq_false_iff, Bool.and_eq_false_iff, Bool.not_eq_true', Bool.not_eq_false', decide_eq_true_eq, decide_eq_false_iff_not, Bool.not_true, Bool.not_false] at hc31
      refine l_atg hF ((wanted_of hF rfl rfl rfl rfl).trans (by rw [hb31]; rfl)) rfl rfl (x_move (hF.tmp 9 rfl)) ?_; clear hF; intro a hF
      refine l_atg hF ((wanted_of hF rfl rfl rfl rfl).trans (by rw [hb31]; rfl)) rfl rfl (x_lss (hF.tmp 32 rfl) rfl) ?_; clear hF; intro a hF
      refine l_at hF rfl rfl rfl (x_pickT (hF.tmp 31 rfl) hb31 (hF.tmp 33 rfl)) ?_; clear hF; intro a hF
      refine wpList_nil ?_
      refine hK13 _ _ ?_
      refine wp_cond_split (hF.tmp 34 rfl) (fun hc34 => ?_) (fun hc34 => ?_)
      · have hk34_1 := hc34; try simp only [Bool.or_eq_true, Bool.and_eq_true, Bool.or_eq_false_iff, Bool.and_eq_false_iff, Bool.not_eq_true', Bool.not_eq_false', decide_eq_true_eq, decide_eq_false_iff_not, Bool.not_true, Bool.not_false] at hc34
        refine wp_skip ?_
        refine hK12 _ _ ?_
        refine wp_seq_k fun khK14 hK14 => ?_
        refine wp_block ?_
        refine wp_seq_k fun khK15 hK15 => ?_
        refine wp_region_lit ?_
        refine l_at hF rfl rfl rfl (x_move (hF.tmp 1 rfl)) ?_; clear hF; intro a hF
        refine l_at hF rfl rfl rfl (x_move (hF.tmp 9 rfl)) ?_; clear hF; intro a hF
        refine l_at hF rfl rfl rfl (x_iaddr_A Try.underlying22 ty46 ((hH.rd 902 rfl)) (hF.tmp 37 rfl) (hF.tmp 38 rfl) (by omega) (by omega) _) ?_; clear hF; intro a hF
        obtain ⟨hf1_0, hf1_1, hf1_2, hfw1⟩ := rd_tact ((hH.rd 902 rfl)) (gtact_some (xs := thn) (i := (i : Int)) (by omega) (by omega))
        have hH := hH.subcels 902 rfl 1499 hfw1 (Rd.inok ((hH.rd 902 rfl)) (by omega) _)
        have hH := hH.subcel 902 rfl 1500 hf1_0 (Rd.inok ((hH.rd 902 rfl)) (by omega) _)
        have hH := hH.subcel 902 rfl 1501 hf1_1 (Rd.inok ((hH.rd 902 rfl)) (by omega) _)
        have hH := hH.subcel 902 rfl 1502 hf1_2 (Rd.inok ((hH.rd 902 rfl)) (by omega) _)
        have hBi := gtact_B hB2 (i := i) (by omega)
        refine l_at hF rfl rfl rfl (x_loadn ty46 (hF.tmp 39 rfl) rfl (hH.holds 1499 _ rfl)) ?_; clear hF; intro a hF
        refine wpList_plain rfl fun K hK => ?_
        refine w_alloc 70 hF hH rfl ty46 ?_
        clear hF hH; intro a w b10 hF hH
        refine hK _ _ ?_; clear hK K
        refine wpList_plain rfl fun K hK => ?_
        refine w_storeA 70 hH ty46 rfl (hF.tmp 10 rfl) (hF.tmp 40 rfl) rfl (by simp [Value.cells, Value.oneCell']) rfl ?_
        clear hH; intro w hH
        refine hK _ _ ?_; clear hK K
        refine wpList_nil ?_
        refine hK15 _ _ ?_
        refine wp_seq_k fun khK16 hK16 => ?_
        refine wp_seq_k fun khK17 hK17 => ?_
        have hJr13 : ∀ a w, ∀ b50 : Bool, (b50 = false → (gtact thn (i : Int)).key.length ≤ 40 ∧ (gtact thn (i : Int)).value.length ≤ 40) → Fr 105 a [(1, .slice A2 thn.length c2), (5, .pointer (some ⟨tb, 0, none⟩)), (6, .pointer (some ⟨ub, 0, none⟩)), (7, .slice Ar61 l.length cr61), (8, .int .i64 (nodesL l : Int)), (9, .int .i64 (i : Int)), (10, .pointer (some ⟨b10, 0, none⟩)), (50, .bool b50)] → Hp (fun _ => False) w0 w [(901, .rd_ TactE A script c (fun k => k < w0.heap.size)), (902, .rd_ TactE A2 thn c2 (fun k => k < w0.heap.size)), (100, X), (200, U_), (60, .rd_ TentE Ar60 l cr60 (fun kb => (Value.slice Ar60 l.length cr60).ownBlock = some kb)), (61, .rd_ TentE Ar61 l cr61 (fun kb => (Value.slice Ar61 l.length cr61).ownBlock = some kb)), (1499, .cels (adr A2 (Int.toNat (i : Int) * 3)) #[.int .i64 (gtact thn (i : Int)).kind, .string (strOfNums (gtact thn (i : Int)).key), .string (strOfNums (gtact thn (i : Int)).value)]), (1500, .cel (adr A2 (Int.toNat (i : Int) * 3)) (.int .i64 (gtact thn (i : Int)).kind)), (1501, .cel (adr A2 (Int.toNat (i : Int) * 3 + 1)) (.string (strOfNums (gtact thn (i : Int)).key))), (1502, .cel (adr A2 (Int.toNat (i : Int) * 3 + 2)) (.string (strOfNums (gtact thn (i : Int)).value))), (70, .blk b10 (.cells #[.int .i64 (gtact thn (i : Int)).kind, .string (strOfNums (gtact thn (i : Int)).key), .string (strOfNums (gtact thn (i : Int)).value)] 46 (0, 0)))] → khK17 a w := by
          intro a w b50 hjr13_0 hF hH
          refine hK17 a w ?_
          refine wp_cond_split (hF.tmp 50 rfl) (fun hc50 => ?_) (fun hc50 => ?_)
          · have hk50_2 := hc50; try simp only [Bool.or_eq_true, Bool.and_eq_true, Bool.or_eq_false_iff, Bool.and_eq_false_iff, Bool.not_eq_true', Bool.not_eq_false', decide_eq_true_eq, decide_eq_false_iff_not, Bool.not_true, Bool.not_false] at hc50
            refine wp_exit ?_
            refine hK14 _ _ ?_
            refine wp_region_lit ?_
            refine l_at hF rfl rfl rfl (x_move (hF.tmp 9 rfl)) ?_; clear hF; intro a hF
            refine l_at hF rfl rfl rfl (x_add (hF.tmp 35 rfl) rfl (show IntKind.i64.wrap _ = ((i + 1 : Nat) : Int) from by rw [w64 (by omega) (by omega)] <;> omega)) ?_; clear hF; intro a hF
            refine l_at hF rfl rfl rfl (x_assign (hF.tmp 36 rfl)) ?_; clear hF; intro a hF
            refine wpList_nil ?_
            exact ⟨_, by omega, ⟨i + 1, U_, m, rfl, ⟨by omega, by omega⟩, hq0_1, (by omega), ((((((hF.bare.add hF 9 rfl).add hF 8 rfl).add hF 7 rfl).add hF 6 rfl).add hF 5 rfl).add hF 1 rfl), hH.sub _ (sub_cons (sub_cons (sub_cons (sub_cons (sub_cons (sub_cons (sub_nil _) 61 rfl) 60 rfl) 200 rfl) 100 rfl) 902 rfl) 901 rfl)⟩⟩
          · have hk50_3 := hc50; try simp only [Bool.or_eq_true, Bool.and_eq_true, Bool.or_eq_false_iff, Bool.and_eq_false_iff, Bool.not_eq_true', Bool.not_eq_false', decide_eq_true_eq, decide_eq_false_iff_not, Bool.not_true, Bool.not_false] at hc50
            have hle := hjr13_0 hc50
            refine wp_skip ?_
            refine hK16 _ _ ?_
            refine wp_seq_k fun khK18 hK18 => ?_
            refine wp_region_lit ?_
            refine l_at hF rfl rfl rfl (x_faddr Try.underlying46 rfl ty3 (by decide) (hF.tmp 10 rfl) rfl) ?_; clear hF; intro a hF
            refine l_at hF rfl rfl rfl (x_load1 ty3 (hF.tmp 51 rfl) (blk_cell (hH.at 70 rfl) 0 rfl)) ?_; clear hF; intro a hF
            refine l_at hF rfl rfl rfl (x_eql (hF.tmp 52 rfl) rfl) ?_; clear hF; intro a hF
            refine wpList_nil ?_
            refine hK18 _ _ ?_
            refine wp_norm_k fun khK19 hK19 => ?_
            have hJ53 : ∀ a w, ∀ U2 : Asn, ∀ m2 : List Ent, (TrieA 58 62 9 ub m2 U2) → (m2.length ≤ 120 + (i + 1)) → Fr 105 a [(1, .slice A2 thn.length c2), (5, .pointer (some ⟨tb, 0, none⟩)), (6, .pointer (some ⟨ub, 0, none⟩)), (7, .slice Ar61 l.length cr61), (8, .int .i64 (nodesL l : Int)), (9, .int .i64 (i : Int))] → Hp (fun _ => False) w0 w [(901, .rd_ TactE A script c (fun k => k < w0.heap.size)), (902, .rd_ TactE A2 thn c2 (fun k => k < w0.heap.size)), (100, X), (200, U2), (60, .rd_ TentE Ar60 l cr60 (fun kb => (Value.slice Ar60 l.length cr60).ownBlock = some kb)), (61, .rd_ TentE Ar61 l cr61 (fun kb => (Value.slice Ar61 l.length cr61).ownBlock = some kb)), (1499, .cels (adr A2 (Int.toNat (i : Int) * 3)) #[.int .i64 (gtact thn (i : Int)).kind, .string (strOfNums (gtact thn (i : Int)).key), .string (strOfNums (gtact thn (i : Int)).value)]), (1500, .cel (adr A2 (Int.toNat (i : Int) * 3)) (.int .i64 (gtact thn (i : Int)).kind)), (1501, .cel (adr A2 (Int.toNat (i : Int) * 3 + 1)) (.string (strOfNums (gtact thn (i : Int)).key))), (1502, .cel (adr A2 (Int.toNat (i : Int) * 3 + 2)) (.string (strOfNums (gtact thn (i : Int)).value))), (70, .blk b10 (.cells #[.int .i64 (gtact thn (i : Int)).kind, .string (strOfNums (gtact thn (i : Int)).key), .string (strOfNums (gtact thn (i : Int)).value)] 46 (0, 0)))] → khK19 a w := by
              intro a w U2 m2 hj53_0 hj53_1 hF hH
              refine hK19 a w ?_
              refine hK14 _ _ ?_
              refine wp_region_lit ?_
              refine l_at hF rfl rfl rfl (x_move (hF.tmp 9 rfl)) ?_; clear hF; intro a hF
              refine l_at hF rfl rfl rfl (x_add (hF.tmp 35 rfl) rfl (show IntKind.i64.wrap _ = ((i + 1 : Nat) : Int) from by rw [w64 (by omega) (by omega)] <;> omega)) ?_; clear hF; intro a hF
              refine l_at hF rfl rfl rfl (x_assign (hF.tmp 36 rfl)) ?_; clear hF; intro a hF
              refine wpList_nil ?_
              exact ⟨_, by omega, ⟨i + 1, U2, m2, rfl, ⟨by omega, by omega⟩, hj53_0, hj53_1, ((((((hF.bare.add hF 9 rfl).add hF 8 rfl).add hF 7 rfl).add hF 6 rfl).add hF 5 rfl).add hF 1 rfl), hH.sub _ (sub_cons (sub_cons (sub_cons (sub_cons (sub_cons (sub_cons (sub_nil _) 61 rfl) 60 rfl) 200 rfl) 100 rfl) 902 rfl) 901 rfl)⟩⟩
            refine wp_cond_split (hF.tmp 53 rfl) (fun hc53 => ?_) (fun hc53 => ?_)
            · have hk53_4 := hc53; try simp only [Bool.or_eq_true, Bool.and_eq_true, Bool.or_eq_false_iff, Bool.and_eq_false_iff, Bool.not_eq_true', Bool.not_eq_false', decide_eq_true_eq, decide_eq_false_iff_not, Bool.not_true, Bool.not_false] at hc53
              refine wp_region_lit ?_
              refine l_at hF rfl rfl rfl (x_move (hF.tmp 6 rfl)) ?_; clear hF; intro a hF
              refine l_at hF rfl rfl rfl (x_faddr Try.underlying46 rfl ty9 (by decide) (hF.tmp 10 rfl) rfl) ?_; clear hF; intro a hF
              refine l_at hF rfl rfl rfl (x_load1 ty9 (hF.tmp 55 rfl) (blk_cell (hH.at 70 rfl) 1 rfl)) ?_; clear hF; intro a hF
              refine l_at hF rfl rfl rfl (x_faddr Try.underlying46 rfl ty9 (by decide) (hF.tmp 10 rfl) rfl) ?_; clear hF; intro a hF
              refine l_at hF rfl rfl rfl (x_load1 ty9 (hF.tmp 57 rfl) (blk_cell (hH.at 70 rfl) 2 rfl)) ?_; clear hF; intro a hF
              refine wpList_plain rfl fun K hK => ?_
              refine w_call hF (x_enter Try.func15 (by kernel_rfl) rfl (by simp only [List.map_toArray, List.map_cons, List.map_nil, hF.tmp 54 rfl, hF.tmp 56 rfl, hF.tmp 58 rfl] <;> rfl)) (put_calls (key := ((gtact thn (i : Int)).key)) (v := ((gtact thn (i : Int)).value)) _ hq0_1 (hH.okX 200 rfl) hBi.key (by omega) hBi.value (by omega) (by omega)) rfl rfl ?_
              rintro _ w ⟨Y1, rfl, hY1, hg_⟩; refine ⟨_, rfl, ?_⟩; clear hF; intro a hF; have hH := hH.grew 200 rfl hg_ (fun k hk => hk.elim)
              refine hK _ _ ?_; clear hK K
              refine wpList_nil ?_
              exact hJ53 _ _ Y1 (putL m ((gtact thn (i : Int)).key) ((gtact thn (i : Int)).value)) hY1 (put_le (TrieA.sorted hq0_1) hq0_2) ((((((hF.bare.add hF 9 rfl).add hF 8 rfl).add hF 7 rfl).add hF 6 rfl).add hF 5 rfl).add hF 1 rfl) (hH.sub _ (sub_cons (sub_cons (sub_cons (sub_cons (sub_cons (sub_cons (sub_cons (sub_cons (sub_cons (sub_cons (sub_cons (sub_nil _) 70 rfl) 1502 rfl) 1501 rfl) 1500 rfl) 1499 rfl) 61 rfl) 60 rfl) 200 rfl) 100 rfl) 902 rfl) 901 rfl))
            · have hk53_5 := hc53; try simp only [Bool.or_eq_true, Bool.and_eq_true, Bool.or_eq_false_iff, Bool.and_eq_false_iff, Bool.not_eq_true', Bool.not_eq_false', decide_eq_true_eq, decide_eq_false_iff_not, Bool.not_true, Bool.not_false] at hc53
              refine wp_region_lit ?_
              refine l_at hF rfl rfl rfl (x_move (hF.tmp 6 rfl)) ?_; clear hF; intro a hF
              refine l_at hF rfl rfl rfl (x_faddr Try.underlying46 rfl ty9 (by decide) (hF.tmp 10 rfl) rfl) ?_; clear hF; intro a hF
              refine l_at hF rfl rfl rfl (x_load1 ty9 (hF.tmp 61 rfl) (blk_cell (hH.at 70 rfl) 1 rfl)) ?_; clear hF; intro a hF
              refine wpList_plain rfl fun K hK => ?_
              refine w_call hF (x_enter Try.func16 (by kernel_rfl) rfl (by simp only [List.map_toArray, List.map_cons, List.map_nil, hF.tmp 60 rfl, hF.tmp 62 rfl] <;> rfl)) (drop1_calls (key := ((gtact thn (i : Int)).key)) _ hq0_1 (hH.okX 200 rfl) hBi.key (by omega) (by omega)) rfl rfl ?_
              rintro _ w ⟨Y1, rfl, hY1, hg_⟩; refine ⟨_, rfl, ?_⟩; clear hF; intro a hF; have hH := hH.grew 200 rfl hg_ (fun k hk => hk.elim)
              refine hK _ _ ?_; clear hK K
              refine wpList_nil ?_
              exact hJ53 _ _ Y1 (dropL m ((gtact thn (i : Int)).key)) hY1 (Nat.le_trans (drop_le hq0_2) (by omega)) ((((((hF.bare.add hF 9 rfl).add hF 8 rfl).add hF 7 rfl).add hF 6 rfl).add hF 5 rfl).add hF 1 rfl) (hH.sub _ (sub_cons (sub_cons (sub_cons (sub_cons (sub_cons (sub_cons (sub_cons (sub_cons (sub_cons (sub_cons (sub_cons (sub_nil _) 70 rfl) 1502 rfl) 1501 rfl) 1500 rfl) 1499 rfl) 61 rfl) 60 rfl) 200 rfl) 100 rfl) 902 rfl) 901 rfl))
        refine wp_region_lit ?_
        refine l_at hF rfl rfl rfl (x_faddr Try.underlying46 rfl ty9 (by decide) (hF.tmp 10 rfl) rfl) ?_; clear hF; intro a hF
        refine l_at hF rfl rfl rfl (x_load1 ty9 (hF.tmp 41 rfl) (blk_cell (hH.at 70 rfl) 1 rfl)) ?_; clear hF; intro a hF
        refine l_at hF rfl rfl rfl (x_len_sn (xs := ((gtact thn (i : Int)).key)) Try.underlying9 (hF.tmp 42 rfl)) ?_; clear hF; intro a hF
        refine l_at hF rfl rfl rfl (x_gtr (hF.tmp 43 rfl) rfl) ?_; clear hF; intro a hF
        refine l_at hF rfl rfl rfl (x_move (hF.tmp 44 rfl)) ?_; clear hF; intro a hF
        refine split_bool hF 45 rfl (fun hb45 => ?_) (fun hb45 => ?_)
        · have hc45 := hb45; try simp only [Bool.or_eq_true, Bool.and_eq_true, Bool.or_eq_false_iff, Bool.and_eq_false_iff, Bool.not_eq_true', Bool.not_eq_false', decide_eq_true_eq, decide_eq_false_iff_not, Bool.not_true, Bool.not_false] at hc45
          refine l_offg hF ((wanted_of hF rfl rfl rfl rfl).trans (by rw [hb45]; rfl)) rfl rfl ?_; clear hF; intro a hF
          refine l_offg hF ((wanted_of hF rfl rfl rfl rfl).trans (by rw [hb45]; rfl)) rfl rfl ?_; clear hF; intro a hF
          refine l_offg hF ((wanted_of hF rfl rfl rfl rfl).trans (by rw [hb45]; rfl)) rfl rfl ?_; clear hF; intro a hF
          refine l_offg hF ((wanted_of hF rfl rfl rfl rfl).trans (by rw [hb45]; rfl)) rfl rfl ?_; clear hF; intro a hF
          refine l_at hF rfl rfl rfl (x_pickT (hF.tmp 45 rfl) hb45 rfl) ?_; clear hF; intro a hF
          refine wpList_nil ?_
          exact hJr13 _ _ true (by intro h; first | (cases h; done) | (simp only [decide_eq_false_iff_not] at h; exact ⟨by omega, by omega⟩)) ((((((((hF.bare.add hF 50 rfl).add hF 10 rfl).add hF 9 rfl).add hF 8 rfl).add hF 7 rfl).add hF 6 rfl).add hF 5 rfl).add hF 1 rfl) (hH.sub _ (sub_cons (sub_cons (sub_cons (sub_cons (sub_cons (sub_cons (sub_cons (sub_cons (sub_cons (sub_cons (sub_cons (sub_nil _) 70 rfl) 1502 rfl) 1501 rfl) 1500 rfl) 1499 rfl) 61 rfl) 60 rfl) 200 rfl) 100 rfl) 902 rfl) 901 rfl))
        · have hc45 := hb45; try simp only [Bool.or_eq_true, Bool.and_eq_true, Bool.or_eq_false_iff, Bool.and_eq_false_iff, Bool.not_eq_true', Bool.not_eq_false', decide_eq_true_eq, decide_eq_false_iff_not, Bool.not_true, Bool.not_false] at hc45
          refine l_atg hF ((wanted_of hF rfl rfl rfl rfl).trans (by rw [hb45]; rfl)) rfl rfl (x_faddr Try.underlying46 rfl ty9 (by decide) (hF.tmp 10 rfl) rfl) ?_; clear hF; intro a hF
          refine l_atg hF ((wanted_of hF rfl rfl rfl rfl).trans (by rw [hb45]; rfl)) rfl rfl (x_load1 ty9 (hF.tmp 46 rfl) (blk_cell (hH.at 70 rfl) 2 rfl)) ?_; clear hF; intro a hF
          refine l_atg hF ((wanted_of hF rfl rfl rfl rfl).trans (by rw [hb45]; rfl)) rfl rfl (x_len_sn (xs := ((gtact thn (i : Int)).value)) Try.underlying9 (hF.tmp 47 rfl)) ?_; clear hF; intro a hF
          refine l_atg hF ((wanted_of hF rfl rfl rfl rfl).trans (by rw [hb45]; rfl)) rfl rfl (x_gtr (hF.tmp 48 rfl) rfl) ?_; clear hF; intro a hF
          refine l_at hF rfl rfl rfl (x_pickF (hF.tmp 45 rfl) hb45 (hF.tmp 49 rfl)) ?_; clear hF; intro a hF
          refine wpList_nil ?_
          exact hJr13 _ _ (decide (40 < (((gtact thn (i : Int)).value).length : Int))) (by intro h; first | (cases h; done) | (simp only [decide_eq_false_iff_not] at h; exact ⟨by omega, by omega⟩)) ((((((((hF.bare.add hF 50 rfl).add hF 10 rfl).add hF 9 rfl).add hF 8 rfl).add hF 7 rfl).add hF 6 rfl).add hF 5 rfl).add hF 1 rfl) (hH.sub _ (sub_cons (sub_cons (sub_cons (sub_cons (sub_cons (sub_cons (sub_cons (sub_cons (sub_cons (sub_cons (sub_cons (sub_nil _) 70 rfl) 1502 rfl) 1501 rfl) 1500 rfl) 1499 rfl) 61 rfl) 60 rfl) 200 rfl) 100 rfl) 902 rfl) 901 rfl))
      · have hk34_6 := hc34; try simp only [Bool.or_eq_true, Bool.and_eq_true, Bool.or_eq_false_iff, Bool.and_eq_false_iff, Bool.not_eq_true', Bool.not_eq_false', decide_eq_true_eq, decide_eq_false_iff_not, Bool.not_true, Bool.not_false] at hc34
        refine wp_exit ?_
        refine hK10 _ _ ?_
        refine wp_seq_k fun khK20 hK20 => ?_
        refine wp_region_lit ?_
        refine l_at hF rfl rfl rfl (x_move (hF.tmp 5 rfl)) ?_; clear hF; intro a hF
        refine wpList_plain rfl fun K hK => ?_
        refine w_call hF (x_enter Try.func10 (by kernel_rfl) rfl (by simp only [List.map_toArray, List.map_cons, List.map_nil, hF.tmp 64 rfl] <;> kernel_rfl)) (walk_calls (pre := ([] : List Int)) _ hX (hH.okX 100 rfl) (by unfold Byte; decide) (by decide) (most := 120) (by omega) (by omega) (by omega) (by unfold kmax; omega)) rfl rfl ?_
        rintro _ w ⟨vr62, rfl, hm_, hr_⟩; refine ⟨_, rfl, ?_⟩; clear hF; intro a hF; have hH := Hp.rowOut hH 62 hm_ hr_; obtain ⟨Ar62, cr62, rfl⟩ := (hH.row 62 rfl).form
        refine hK _ _ ?_; clear hK K
        rw [walkL_all hl120] at hF hH
        have hH := hH.freeze 62 rfl (fun kb => (Value.slice Ar62 l.length cr62).ownBlock = some kb) (fun kb => ⟨fun h => .inr h, fun h => h.resolve_left id⟩)
        refine wpList_plain rfl fun K hK => ?_
        refine w_call hF (x_enter Try.func18 (by kernel_rfl) rfl (by simp only [List.map_toArray, List.map_cons, List.map_nil, hF.tmp 65 rfl] <;> rfl)) (told_calls _ ((hH.rd 62 rfl)) (by simp only [List.length_nil] at *; omega)) rfl rfl ?_
        rintro _ w ⟨vr63, rfl, hm_, hr_⟩; refine ⟨_, rfl, ?_⟩; clear hF; intro a hF; have hH := Hp.rowOut hH 63 hm_ hr_; obtain ⟨Ar63, cr63, rfl⟩ := (hH.row 63 rfl).form
        refine hK _ _ ?_; clear hK K
        refine l_at hF rfl rfl rfl (x_move (hF.tmp 7 rfl)) ?_; clear hF; intro a hF
        refine wpList_plain rfl fun K hK => ?_
        refine w_call hF (x_enter Try.func17 (by kernel_rfl) rfl (by simp only [List.map_toArray, List.map_cons, List.map_nil, hF.tmp 66 rfl, hF.tmp 67 rfl] <;> rfl)) (same_calls _ (Row.rd (ok' := fun k_ => (fun _ => False) k_ ∨ (.slice Ar63 l.length cr63 : Value).ownBlock = some k_) (hH.row 63 rfl) (fun _ hk_ _ => .inl hk_) (fun _ hk_ => .inr hk_)) ((hH.rd 61 rfl)) (fun e he => ⟨(TrieA.byte hX he).1.1, (TrieA.byte hX he).2.1⟩)) rfl rfl ?_
        rintro _ w ⟨rfl, hm_⟩; refine ⟨_, rfl, ?_⟩; clear hF; intro a hF; have hH := hH.same hm_
        refine hK _ _ ?_; clear hK K
        refine l_at hF rfl rfl rfl (x_assign (hF.tmp 68 rfl)) ?_; clear hF; intro a hF
        refine wpList_nil ?_
        refine hK20 _ _ ?_
        refine wp_seq_k fun khK21 hK21 => ?_
        refine wp_seq_k fun khK22 hK22 => ?_
        refine wp_region_lit ?_
        refine l_at hF rfl rfl rfl (x_move (hF.tmp 11 rfl)) ?_; clear hF; intro a hF
        refine l_at hF rfl rfl rfl (x_not (hF.tmp 69 rfl)) ?_; clear hF; intro a hF
        refine l_at hF rfl rfl rfl (x_move (hF.tmp 70 rfl)) ?_; clear hF; intro a hF
        refine l_atg hF ((wanted_of hF rfl rfl rfl rfl).trans rfl) rfl rfl (x_move (hF.tmp 5 rfl)) ?_; clear hF; intro a hF
        refine wpList_on ((wanted_of hF rfl rfl rfl rfl).trans rfl) fun K hK => ?_
        refine w_call hF (x_enter Try.func19 (by kernel_rfl) rfl (by simp only [List.map_toArray, List.map_cons, List.map_nil, hF.tmp 72 rfl] <;> rfl)) (nodes_calls _ hX (hH.okX 100 rfl)) rfl rfl ?_
        rintro _ w ⟨rfl, hm_⟩; refine ⟨_, rfl, ?_⟩; clear hF; intro a hF; have hH := hH.same hm_
        refine hK _ _ ?_; clear hK K
        refine l_atg hF ((wanted_of hF rfl rfl rfl rfl).trans rfl) rfl rfl (x_move (hF.tmp 8 rfl)) ?_; clear hF; intro a hF
        refine l_atg hF ((wanted_of hF rfl rfl rfl rfl).trans rfl) rfl rfl (x_neq (hF.tmp 73 rfl) (hF.tmp 74 rfl)) ?_; clear hF; intro a hF
        rw [decide_eq_true rfl] at hF
        refine l_at hF rfl rfl rfl (x_pickF (hF.tmp 71 rfl) rfl (hF.tmp 75 rfl)) ?_; clear hF; intro a hF
        refine wpList_nil ?_
        refine hK22 _ _ ?_
        refine wp_cond_false (hF.tmp 76 rfl) ?_
        refine wp_skip ?_
        refine hK21 _ _ ?_
        refine wp_seq_k fun khK23 hK23 => ?_
        refine wp_seq_k fun khK24 hK24 => ?_
        refine wp_region_lit ?_
        refine l_at hF rfl rfl rfl (x_assign rfl) ?_; clear hF; intro a hF
        refine wpList_nil ?_
        refine hK24 _ _ ?_
        refine wp_block ?_
        refine wp_loop_ghost (fun n_ a w => ∃ i : Nat, ∃ X_ : Asn, n_ = l.length - i ∧ (i ≤ l.length) ∧ (TrieA 58 62 9 tb (l.drop i) X_) ∧ Fr 105 a [(5, .pointer (some ⟨tb, 0, none⟩)), (6, .pointer (some ⟨ub, 0, none⟩)), (7, .slice Ar61 l.length cr61), (12, .int .i64 (i : Int))] ∧ Hp (fun _ => False) w0 w [(901, .rd_ TactE A script c (fun k => k < w0.heap.size)), (902, .rd_ TactE A2 thn c2 (fun k => k < w0.heap.size)), (100, X_), (200, U_), (60, .rd_ TentE Ar60 l cr60 (fun kb => (Value.slice Ar60 l.length cr60).ownBlock = some kb)), (61, .rd_ TentE Ar61 l cr61 (fun kb => (Value.slice Ar61 l.length cr61).ownBlock = some kb)), (62, .rd_ TentE Ar62 l cr62 (fun kb => (Value.slice Ar62 l.length cr62).ownBlock = some kb)), (63, .row TentE 48 (.slice Ar63 l.length cr63) l (fun _ => False))]) (l.length) ?_ ?_
        · exact ⟨0, X, rfl, Nat.zero_le _, hX, ((((hF.bare.add hF 12 rfl).add hF 7 rfl).add hF 6 rfl).add hF 5 rfl), hH.sub _ (sub_cons (sub_cons (sub_cons (sub_cons (sub_cons (sub_cons (sub_cons (sub_cons (sub_nil _) 63 rfl) 62 rfl) 61 rfl) 60 rfl) 200 rfl) 100 rfl) 902 rfl) 901 rfl)⟩
        · rintro _ a w ⟨i, X_, rfl, hq2_0, hq2_1, hF, hH⟩
          refine wp_seq_k fun khK25 hK25 => ?_
          refine wp_seq_k fun khK26 hK26 => ?_
          refine wp_region_lit ?_
          refine l_at hF rfl rfl rfl (x_move (hF.tmp 12 rfl)) ?_; clear hF; intro a hF
          refine l_at hF rfl rfl rfl (x_move (hF.tmp 7 rfl)) ?_; clear hF; intro a hF
          refine l_at hF rfl rfl rfl (x_len_slice Try.underlying38 (hF.tmp 78 rfl)) ?_; clear hF; intro a hF
          refine l_at hF rfl rfl rfl (x_lss (hF.tmp 77 rfl) (hF.tmp 79 rfl)) ?_; clear hF; intro a hF
          refine wpList_nil ?_
          refine hK26 _ _ ?_
          refine wp_cond_split (hF.tmp 80 rfl) (fun hc80 => ?_) (fun hc80 => ?_)
          · have hk80_7 := hc80; try simp only [Bool.or_eq_true, Bool.and_eq_true, Bool.or_eq_false_iff, Bool.and_eq_false_iff, Bool.not_eq_true', Bool.not_eq_false', decide_eq_true_eq, decide_eq_false_iff_not, Bool.not_true, Bool.not_false] at hc80
            refine wp_skip ?_
            refine hK25 _ _ ?_
            refine wp_seq_k fun khK27 hK27 => ?_
            refine wp_block ?_
            refine wp_region_lit ?_
            refine l_at hF rfl rfl rfl (x_move (hF.tmp 5 rfl)) ?_; clear hF; intro a hF
            refine l_at hF rfl rfl rfl (x_move (hF.tmp 7 rfl)) ?_; clear hF; intro a hF
            refine l_at hF rfl rfl rfl (x_move (hF.tmp 12 rfl)) ?_; clear hF; intro a hF
            obtain ⟨hf3_0, hf3_1, hfw3⟩ := rd_tent ((hH.rd 61 rfl)) (gtent_some (xs := l) (i := (i : Int)) (by omega) (by omega))
            have hH := hH.subcels 61 rfl 3499 hfw3 (Rd.inok ((hH.rd 61 rfl)) (by omega) _)
            have hH := hH.subcel 61 rfl 3500 hf3_0 (Rd.inok ((hH.rd 61 rfl)) (by omega) _)
            have hH := hH.subcel 61 rfl 3501 hf3_1 (Rd.inok ((hH.rd 61 rfl)) (by omega) _)
            refine l_at hF rfl rfl rfl (x_iaddr_A Try.underlying38 ty48 ((hH.rd 61 rfl)) (hF.tmp 84 rfl) (hF.tmp 85 rfl) (by omega) (by omega) _) ?_; clear hF; intro a hF
            refine l_at hF rfl rfl rfl (x_faddrA ((hH.rd 61 rfl)) (by omega) _ Try.underlying48 rfl ty9 (by decide) (hF.tmp 86 rfl) rfl) ?_; clear hF; intro a hF
            refine l_at hF rfl rfl rfl (x_load1 ty9 (hF.tmp 87 rfl) (hH.holds 3500 _ rfl)) ?_; clear hF; intro a hF
            refine wpList_plain rfl fun K hK => ?_
            refine w_call hF (x_enter Try.func16 (by kernel_rfl) rfl (by simp only [List.map_toArray, List.map_cons, List.map_nil, hF.tmp 83 rfl, hF.tmp 88 rfl] <;> rfl)) (drop1_calls (key := ((gtent l (i : Int)).1)) _ hq2_1 (hH.okX 100 rfl) ((TrieA.byte hX (gtent_mem (xs := l) (j := i) (by omega))).1.1) ((TrieA.byte hX (gtent_mem (xs := l) (j := i) (by omega))).1.2) (by rw [List.length_drop]; omega)) rfl rfl ?_
            rintro _ w ⟨Y1, rfl, hY1, hg_⟩; refine ⟨_, rfl, ?_⟩; clear hF; intro a hF; have hH := hH.grew 100 rfl hg_ (fun k hk => hk.elim)
            refine hK _ _ ?_; clear hK K
            refine wpList_nil ?_
            refine hK27 _ _ ?_
            refine wp_region_lit ?_
            refine l_at hF rfl rfl rfl (x_move (hF.tmp 12 rfl)) ?_; clear hF; intro a hF
            refine l_at hF rfl rfl rfl (x_add (hF.tmp 81 rfl) rfl (show IntKind.i64.wrap _ = ((i + 1 : Nat) : Int) from by rw [w64 (by omega) (by omega)] <;> omega)) ?_; clear hF; intro a hF
            refine l_at hF rfl rfl rfl (x_assign (hF.tmp 82 rfl)) ?_; clear hF; intro a hF
            refine wpList_nil ?_
            exact ⟨_, by omega, ⟨i + 1, Y1, rfl, by omega, (by rw [← drop_drop9 (TrieA.sorted hX) (by omega)]; exact hY1), ((((hF.bare.add hF 12 rfl).add hF 7 rfl).add hF 6 rfl).add hF 5 rfl), hH.sub _ (sub_cons (sub_cons (sub_cons (sub_cons (sub_cons (sub_cons (sub_cons (sub_cons (sub_nil _) 63 rfl) 62 rfl) 61 rfl) 60 rfl) 200 rfl) 100 rfl) 902 rfl) 901 rfl)⟩⟩
          · have hk80_8 := hc80; try simp only [Bool.or_eq_true, Bool.and_eq_true, Bool.or_eq_false_iff, Bool.and_eq_false_iff, Bool.not_eq_true', Bool.not_eq_false', decide_eq_true_eq, decide_eq_false_iff_not, Bool.not_true, Bool.not_false] at hc80
            refine wp_exit ?_
            refine hK23 _ _ ?_
            refine wp_seq_k fun khK28 hK28 => ?_
            refine wp_region_lit ?_
            refine l_at hF rfl rfl rfl (x_move (hF.tmp 6 rfl)) ?_; clear hF; intro a hF
            refine wpList_plain rfl fun K hK => ?_
            refine w_call hF (x_enter Try.func13 (by kernel_rfl) rfl (by simp only [List.map_toArray, List.map_cons, List.map_nil, hF.tmp 90 rfl] <;> rfl)) (len_calls _ hq0_1 (hH.okX 200 rfl)) rfl rfl ?_
            rintro _ w ⟨rfl, hm_⟩; refine ⟨_, rfl, ?_⟩; clear hF; intro a hF; have hH := hH.same hm_
            refine hK _ _ ?_; clear hK K
            refine l_at hF rfl rfl rfl (x_assign (hF.tmp 91 rfl)) ?_; clear hF; intro a hF
            refine wpList_nil ?_
            refine hK28 _ _ ?_
            refine wp_seq_k fun khK29 hK29 => ?_
            refine wp_region_lit ?_
            refine wpList_plain rfl fun K hK => ?_
            refine w_call hF (x_enter Try.func12 (by kernel_rfl) rfl (by simp only [List.map_toArray, List.map_cons, List.map_nil] <;> rfl)) (talive_calls _) rfl rfl ?_
            rintro _ w ⟨rfl, hm_⟩; refine ⟨_, rfl, ?_⟩; clear hF; intro a hF; have hH := hH.same hm_
            refine hK _ _ ?_; clear hK K
            refine l_at hF rfl rfl rfl (x_move (hF.tmp 92 rfl)) ?_; clear hF; intro a hF
            refine l_atg hF ((wanted_of hF rfl rfl rfl rfl).trans rfl) rfl rfl (x_move (hF.tmp 5 rfl)) ?_; clear hF; intro a hF
            refine wpList_on ((wanted_of hF rfl rfl rfl rfl).trans rfl) fun K hK => ?_
            refine w_call hF (x_enter Try.func13 (by kernel_rfl) rfl (by simp only [List.map_toArray, List.map_cons, List.map_nil, hF.tmp 94 rfl] <;> rfl)) (len_calls _ hq2_1 (hH.okX 100 rfl)) rfl rfl ?_
            rintro _ w ⟨rfl, hm_⟩; refine ⟨_, rfl, ?_⟩; clear hF; intro a hF; have hH := hH.same hm_
            refine hK _ _ ?_; clear hK K
            refine l_atg hF ((wanted_of hF rfl rfl rfl rfl).trans rfl) rfl rfl (x_eql (hF.tmp 95 rfl) rfl) ?_; clear hF; intro a hF
            rw [decide_eq_true (show ((l.drop i).length : Int) = 0 by rw [List.length_drop]; omega)] at hF
            refine l_at hF rfl rfl rfl (x_pickT (hF.tmp 93 rfl) rfl (hF.tmp 96 rfl)) ?_; clear hF; intro a hF
            refine l_at hF rfl rfl rfl (x_move (hF.tmp 97 rfl)) ?_; clear hF; intro a hF
            refine l_atg hF ((wanted_of hF rfl rfl rfl rfl).trans rfl) rfl rfl (x_move (hF.tmp 6 rfl)) ?_; clear hF; intro a hF
            refine wpList_on ((wanted_of hF rfl rfl rfl rfl).trans rfl) fun K hK => ?_
            refine w_call hF (x_enter Try.func10 (by kernel_rfl) rfl (by simp only [List.map_toArray, List.map_cons, List.map_nil, hF.tmp 99 rfl] <;> kernel_rfl)) (walk_calls (pre := ([] : List Int)) _ hq0_1 (hH.okX 200 rfl) (by unfold Byte; decide) (by decide) (most := 1000) (by omega) (by omega) (by omega) (by unfold kmax; omega)) rfl rfl ?_
            rintro _ w ⟨vr64, rfl, hm_, hr_⟩; refine ⟨_, rfl, ?_⟩; clear hF; intro a hF; have hH := Hp.rowOut hH 64 hm_ hr_; obtain ⟨Ar64, cr64, rfl⟩ := (hH.row 64 rfl).form
            refine hK _ _ ?_; clear hK K
            have hm240 : m.length ≤ 240 := by omega
            rw [walkL_all2 hm240] at hF hH
            have hH := hH.freeze 64 rfl (fun kb => (Value.slice Ar64 m.length cr64).ownBlock = some kb) (fun kb => ⟨fun h => .inr h, fun h => h.resolve_left id⟩)
            refine l_atg hF ((wanted_of hF rfl rfl rfl rfl).trans rfl) rfl rfl (x_len_slice Try.underlying25 (hF.tmp 100 rfl)) ?_; clear hF; intro a hF
            refine l_atg hF ((wanted_of hF rfl rfl rfl rfl).trans rfl) rfl rfl (x_move (hF.tmp 13 rfl)) ?_; clear hF; intro a hF
            refine l_atg hF ((wanted_of hF rfl rfl rfl rfl).trans rfl) rfl rfl (x_eql (hF.tmp 101 rfl) (hF.tmp 102 rfl)) ?_; clear hF; intro a hF
            rw [decide_eq_true rfl] at hF
            refine l_at hF rfl rfl rfl (x_pickT (hF.tmp 98 rfl) rfl (hF.tmp 103 rfl)) ?_; clear hF; intro a hF
            refine l_at hF rfl rfl rfl (x_assign (hF.tmp 104 rfl)) ?_; clear hF; intro a hF
            refine wpList_nil ?_
            refine hK29 _ _ ?_
            refine wp_ret ?_
            try simp only [Exit.then, Exit.inBlock]
            exact fin_ret hF (res1 (v := .bool true) hF rfl rfl) ⟨rfl, hH.mods⟩
    · have hc31 := hb31; try simp only [Bool.or_eq_true, Bool.and_eq_true, Bool.or_eq_false_iff, Bool.and_eq_false_iff, Bool.not_eq_true', Bool.not_eq_false', decide_eq_true_eq, decide_eq_false_iff_not, Bool.not_true, Bool.not_false] at hc31
      refine l_offg hF ((wanted_of hF rfl rfl rfl rfl).trans (by rw [hb31]; rfl)) rfl rfl ?_; clear hF; intro a hF
      refine l_offg hF ((wanted_of hF rfl rfl rfl rfl).trans (by rw [hb31]; rfl)) rfl rfl ?_; clear hF; intro a hF
      refine l_at hF rfl rfl rfl (x_pickF (hF.tmp 31 rfl) hb31 rfl) ?_; clear hF; intro a hF
      refine wpList_nil ?_
      refine hK13 _ _ ?_
      refine wp_cond_false (hF.tmp 34 rfl) ?_
      refine wp_exit ?_
      refine hK10 _ _ ?_
      refine wp_seq_k fun khK30 hK30 => ?_
      refine wp_region_lit ?_
      refine l_at hF rfl rfl rfl (x_move (hF.tmp 5 rfl)) ?_; clear hF; intro a hF
      refine wpList_plain rfl fun K hK => ?_
      refine w_call hF (x_enter Try.func10 (by kernel_rfl) rfl (by simp only [List.map_toArray, List.map_cons, List.map_nil, hF.tmp 64 rfl] <;> kernel_rfl)) (walk_calls (pre := ([] : List Int)) _ hX (hH.okX 100 rfl) (by unfold Byte; decide) (by decide) (most := 120) (by omega) (by omega) (by omega) (by unfold kmax; omega)) rfl rfl ?_
      rintro _ w ⟨vr62, rfl, hm_, hr_⟩; refine ⟨_, rfl, ?_⟩; clear hF; intro a hF; have hH := Hp.rowOut hH 62 hm_ hr_; obtain ⟨Ar62, cr62, rfl⟩ := (hH.row 62 rfl).form
      refine hK _ _ ?_; clear hK K
      rw [walkL_all hl120] at hF hH
      have hH := hH.freeze 62 rfl (fun kb => (Value.slice Ar62 l.length cr62).ownBlock = some kb) (fun kb => ⟨fun h => .inr h, fun h => h.resolve_left id⟩)
      refine wpList_plain rfl fun K hK => ?_
      refine w_call hF (x_enter Try.func18 (by kernel_rfl) rfl (by simp only [List.map_toArray, List.map_cons, List.map_nil, hF.tmp 65 rfl] <;> rfl)) (told_calls _ ((hH.rd 62 rfl)) (by simp only [List.length_nil] at *; omega)) rfl rfl ?_
      rintro _ w ⟨vr63, rfl, hm_, hr_⟩; refine ⟨_, rfl, ?_⟩; clear hF; intro a hF; have hH := Hp.rowOut hH 63 hm_ hr_; obtain ⟨Ar63, cr63, rfl⟩ := (hH.row 63 rfl).form
      refine hK _ _ ?_; clear hK K
      refine l_at hF rfl rfl rfl (x_move (hF.tmp 7 rfl)) ?_; clear hF; intro a hF
      refine wpList_plain rfl fun K hK => ?_
      refine w_call hF (x_enter Try.func17 (by kernel_rfl) rfl (by simp only [List.map_toArray, List.map_cons, List.map_nil, hF.tmp 66 rfl, hF.tmp 67 rfl] <;> rfl)) (same_calls _ (Row.rd (ok' := fun k_ => (fun _ => False) k_ ∨ (.slice Ar63 l.length cr63 : Value).ownBlock = some k_) (hH.row 63 rfl) (fun _ hk_ _ => .inl hk_) (fun _ hk_ => .inr hk_)) ((hH.rd 61 rfl)) (fun e he => ⟨(TrieA.byte hX he).1.1, (TrieA.byte hX he).2.1⟩)) rfl rfl ?_
      rintro _ w ⟨rfl, hm_⟩; refine ⟨_, rfl, ?_⟩; clear hF; intro a hF; have hH := hH.same hm_
      refine hK _ _ ?_; clear hK K
      refine l_at hF rfl rfl rfl (x_assign (hF.tmp 68 rfl)) ?_; clear hF; intro a hF
      refine wpList_nil ?_
      refine hK30 _ _ ?_
      refine wp_seq_k fun khK31 hK31 => ?_
      refine wp_seq_k fun khK32 hK32 => ?_
      refine wp_region_lit ?_
      refine l_at hF rfl rfl rfl (x_move (hF.tmp 11 rfl)) ?_; clear hF; intro a hF
      refine l_at hF rfl rfl rfl (x_not (hF.tmp 69 rfl)) ?_; clear hF; intro a hF
      refine l_at hF rfl rfl rfl (x_move (hF.tmp 70 rfl)) ?_; clear hF; intro a hF
      refine l_atg hF ((wanted_of hF rfl rfl rfl rfl).trans rfl) rfl rfl (x_move (hF.tmp 5 rfl)) ?_; clear hF; intro a hF
      refine wpList_on ((wanted_of hF rfl rfl rfl rfl).trans rfl) fun K hK => ?_
      refine w_call hF (x_enter Try.func19 (by kernel_rfl) rfl (by simp only [List.map_toArray, List.map_cons, List.map_nil, hF.tmp 72 rfl] <;> rfl)) (nodes_calls _ hX (hH.okX 100 rfl)) rfl rfl ?_
      rintro _ w ⟨rfl, hm_⟩; refine ⟨_, rfl, ?_⟩; clear hF; intro a hF; have hH := hH.same hm_
      refine hK _ _ ?_; clear hK K
      refine l_atg hF ((wanted_of hF rfl rfl rfl rfl).trans rfl) rfl rfl (x_move (hF.tmp 8 rfl)) ?_; clear hF; intro a hF
      refine l_atg hF ((wanted_of hF rfl rfl rfl rfl).trans rfl) rfl rfl (x_neq (hF.tmp 73 rfl) (hF.tmp 74 rfl)) ?_; clear hF; intro a hF
      rw [decide_eq_true rfl] at hF
      refine l_at hF rfl rfl rfl (x_pickF (hF.tmp 71 rfl) rfl (hF.tmp 75 rfl)) ?_; clear hF; intro a hF
      refine wpList_nil ?_
      refine hK32 _ _ ?_
      refine wp_cond_false (hF.tmp 76 rfl) ?_
      refine wp_skip ?_
      refine hK31 _ _ ?_
      refine wp_seq_k fun khK33 hK33 => ?_
      refine wp_seq_k fun khK34 hK34 => ?_
      refine wp_region_lit ?_
      refine l_at hF rfl rfl rfl (x_assign rfl) ?_; clear hF; intro a hF
      refine wpList_nil ?_
      refine hK34 _ _ ?_
      refine wp_block ?_
      refine wp_loop_ghost (fun n_ a w => ∃ i : Nat, ∃ X_ : Asn, n_ = l.length - i ∧ (i ≤ l.length) ∧ (TrieA 58 62 9 tb (l.drop i) X_) ∧ Fr 105 a [(5, .pointer (some ⟨tb, 0, none⟩)), (6, .pointer (some ⟨ub, 0, none⟩)), (7, .slice Ar61 l.length cr61), (12, .int .i64 (i : Int))] ∧ Hp (fun _ => False) w0 w [(901, .rd_ TactE A script c (fun k => k < w0.heap.size)), (902, .rd_ TactE A2 thn c2 (fun k => k < w0.heap.size)), (100, X_), (200, U_), (60, .rd_ TentE Ar60 l cr60 (fun kb => (Value.slice Ar60 l.length cr60).ownBlock = some kb)), (61, .rd_ TentE Ar61 l cr61 (fun kb => (Value.slice Ar61 l.length cr61).ownBlock = some kb)), (62, .rd_ TentE Ar62 l cr62 (fun kb => (Value.slice Ar62 l.length cr62).ownBlock = some kb)), (63, .row TentE 48 (.slice Ar63 l.length cr63) l (fun _ => False))]) (l.length) ?_ ?_
      · exact ⟨0, X, rfl, Nat.zero_le _, hX, ((((hF.bare.add hF 12 rfl).add hF 7 rfl).add hF 6 rfl).add hF 5 rfl), hH.sub _ (sub_cons (sub_cons (sub_cons (sub_cons (sub_cons (sub_cons (sub_cons (sub_cons (sub_nil _) 63 rfl) 62 rfl) 61 rfl) 60 rfl) 200 rfl) 100 rfl) 902 rfl) 901 rfl)⟩
      · rintro _ a w ⟨i, X_, rfl, hq2_0, hq2_1, hF, hH⟩
        refine wp_seq_k fun khK35 hK35 => ?_
        refine wp_seq_k fun khK36 hK36 => ?_
        refine wp_region_lit ?_
        refine l_at hF rfl rfl rfl (x_move (hF.tmp 12 rfl)) ?_; clear hF; intro a hF
        refine l_at hF rfl rfl rfl (x_move (hF.tmp 7 rfl)) ?_; clear hF; intro a hF
        refine l_at hF rfl rfl rfl (x_len_slice Try.underlying38 (hF.tmp 78 rfl)) ?_; clear hF; intro a hF
        refine l_at hF rfl rfl rfl (x_lss (hF.tmp 77 rfl) (hF.tmp 79 rfl)) ?_; clear hF; intro a hF
        refine wpList_nil ?_
        refine hK36 _ _ ?_
        refine wp_cond_split (hF.tmp 80 rfl) (fun hc80 => ?_) (fun hc80 => ?_)
        · have hk80_9 := hc80; try simp only [Bool.or_eq_true, Bool.and_eq_true, Bool.or_eq_false_iff, Bool.and_eq_false_iff, Bool.not_eq_true', Bool.not_eq_false', decide_eq_true_eq, decide_eq_false_iff_not, Bool.not_true, Bool.not_false] at hc80
          refine wp_skip ?_
          refine hK35 _ _ ?_
          refine wp_seq_k fun khK37 hK37 => ?_
          refine wp_block ?_
          refine wp_region_lit ?_
          refine l_at hF rfl rfl rfl (x_move (hF.tmp 5 rfl)) ?_; clear hF; intro a hF
          refine l_at hF rfl rfl rfl (x_move (hF.tmp 7 rfl)) ?_; clear hF; intro a hF
          refine l_at hF rfl rfl rfl (x_move (hF.tmp 12 rfl)) ?_; clear hF; intro a hF
          obtain ⟨hf3_0, hf3_1, hfw3⟩ := rd_tent ((hH.rd 61 rfl)) (gtent_some (xs := l) (i := (i : Int)) (by omega) (by omega))
          have hH := hH.subcels 61 rfl 3499 hfw3 (Rd.inok ((hH.rd 61 rfl)) (by omega) _)
          have hH := hH.subcel 61 rfl 3500 hf3_0 (Rd.inok ((hH.rd 61 rfl)) (by omega) _)
          have hH := hH.subcel 61 rfl 3501 hf3_1 (Rd.inok ((hH.rd 61 rfl)) (by omega) _)
          refine l_at hF rfl rfl rfl (x_iaddr_A Try.underlying38 ty48 ((hH.rd 61 rfl)) (hF.tmp 84 rfl) (hF.tmp 85 rfl) (by omega) (by omega) _) ?_; clear hF; intro a hF
          refine l_at hF rfl rfl rfl (x_faddrA ((hH.rd 61 rfl)) (by omega) _ Try.underlying48 rfl ty9 (by decide) (hF.tmp 86 rfl) rfl) ?_; clear hF; intro a hF
          refine l_at hF rfl rfl rfl (x_load1 ty9 (hF.tmp 87 rfl) (hH.holds 3500 _ rfl)) ?_; clear hF; intro a hF
          refine wpList_plain rfl fun K hK => ?_
          refine w_call hF (x_enter Try.func16 (by kernel_rfl) rfl (by simp only [List.map_toArray, List.map_cons, List.map_nil, hF.tmp 83 rfl, hF.tmp 88 rfl] <;> rfl)) (drop1_calls (key := ((gtent l (i : Int)).1)) _ hq2_1 (hH.okX 100 rfl) ((TrieA.byte hX (gtent_mem (xs := l) (j := i) (by omega))).1.1) ((TrieA.byte hX (gtent_mem (xs := l) (j := i) (by omega))).1.2) (by rw [List.length_drop]; omega)) rfl rfl ?_
          rintro _ w ⟨Y1, rfl, hY1, hg_⟩; refine ⟨_, rfl, ?_⟩; clear hF; intro a hF; have hH := hH.grew 100 rfl hg_ (fun k hk => hk.elim)
          refine hK _ _ ?_; clear hK K
          refine wpList_nil ?_
          refine hK37 _ _ ?_
          refine wp_region_lit ?_
          refine l_at hF rfl rfl rfl (x_move (hF.tmp 12 rfl)) ?_; clear hF; intro a hF
          refine l_at hF rfl rfl rfl (x_add (hF.tmp 81 rfl) rfl (show IntKind.i64.wrap _ = ((i + 1 : Nat) : Int) from by rw [w64 (by omega) (by omega)] <;> omega)) ?_; clear hF; intro a hF
          refine l_at hF rfl rfl rfl (x_assign (hF.tmp 82 rfl)) ?_; clear hF; intro a hF
          refine wpList_nil ?_
          exact ⟨_, by omega, ⟨i + 1, Y1, rfl, by omega, (by rw [← drop_drop9 (TrieA.sorted hX) (by omega)]; exact hY1), ((((hF.bare.add hF 12 rfl).add hF 7 rfl).add hF 6 rfl).add hF 5 rfl), hH.sub _ (sub_cons (sub_cons (sub_cons (sub_cons (sub_cons (sub_cons (sub_cons (sub_cons (sub_nil _) 63 rfl) 62 rfl) 61 rfl) 60 rfl) 200 rfl) 100 rfl) 902 rfl) 901 rfl)⟩⟩
        · have hk80_10 := hc80; try simp only [Bool.or_eq_true, Bool.and_eq_true, Bool.or_eq_false_iff, Bool.and_eq_false_iff, Bool.not_eq_true', Bool.not_eq_false', decide_eq_true_eq, decide_eq_false_iff_not, Bool.not_true, Bool.not_false] at hc80
          refine wp_exit ?_
          refine hK33 _ _ ?_
          refine wp_seq_k fun khK38 hK38 => ?_
          refine wp_region_lit ?_
          refine l_at hF rfl rfl rfl (x_move (hF.tmp 6 rfl)) ?_; clear hF; intro a hF
          refine wpList_plain rfl fun K hK => ?_
          refine w_call hF (x_enter Try.func13 (by kernel_rfl) rfl (by simp only [List.map_toArray, List.map_cons, List.map_nil, hF.tmp 90 rfl] <;> rfl)) (len_calls _ hq0_1 (hH.okX 200 rfl)) rfl rfl ?_
          rintro _ w ⟨rfl, hm_⟩; refine ⟨_, rfl, ?_⟩; clear hF; intro a hF; have hH := hH.same hm_
          refine hK _ _ ?_; clear hK K
          refine l_at hF rfl rfl rfl (x_assign (hF.tmp 91 rfl)) ?_; clear hF; intro a hF
          refine wpList_nil ?_
          refine hK38 _ _ ?_
          refine wp_seq_k fun khK39 hK39 => ?_
          refine wp_region_lit ?_
          refine wpList_plain rfl fun K hK => ?_
          refine w_call hF (x_enter Try.func12 (by kernel_rfl) rfl (by simp only [List.map_toArray, List.map_cons, List.map_nil] <;> rfl)) (talive_calls _) rfl rfl ?_
          rintro _ w ⟨rfl, hm_⟩; refine ⟨_, rfl, ?_⟩; clear hF; intro a hF; have hH := hH.same hm_
          refine hK _ _ ?_; clear hK K
          refine l_at hF rfl rfl rfl (x_move (hF.tmp 92 rfl)) ?_; clear hF; intro a hF
          refine l_atg hF ((wanted_of hF rfl rfl rfl rfl).trans rfl) rfl rfl (x_move (hF.tmp 5 rfl)) ?_; clear hF; intro a hF
          refine wpList_on ((wanted_of hF rfl rfl rfl rfl).trans rfl) fun K hK => ?_
          refine w_call hF (x_enter Try.func13 (by kernel_rfl) rfl (by simp only [List.map_toArray, List.map_cons, List.map_nil, hF.tmp 94 rfl] <;> rfl)) (len_calls _ hq2_1 (hH.okX 100 rfl)) rfl rfl ?_
          rintro _ w ⟨rfl, hm_⟩; refine ⟨_, rfl, ?_⟩; clear hF; intro a hF; have hH := hH.same hm_
          refine hK _ _ ?_; clear hK K
          refine l_atg hF ((wanted_of hF rfl rfl rfl rfl).trans rfl) rfl rfl (x_eql (hF.tmp 95 rfl) rfl) ?_; clear hF; intro a hF
          rw [decide_eq_true (show ((l.drop i).length : Int) = 0 by rw [List.length_drop]; omega)] at hF
          refine l_at hF rfl rfl rfl (x_pickT (hF.tmp 93 rfl) rfl (hF.tmp 96 rfl)) ?_; clear hF; intro a hF
          refine l_at hF rfl rfl rfl (x_move (hF.tmp 97 rfl)) ?_; clear hF; intro a hF
          refine l_atg hF ((wanted_of hF rfl rfl rfl rfl).trans rfl) rfl rfl (x_move (hF.tmp 6 rfl)) ?_; clear hF; intro a hF
          refine wpList_on ((wanted_of hF rfl rfl rfl rfl).trans rfl) fun K hK => ?_
          refine w_call hF (x_enter Try.func10 (by kernel_rfl) rfl (by simp only [List.map_toArray, List.map_cons, List.map_nil, hF.tmp 99 rfl] <;> kernel_rfl)) (walk_calls (pre := ([] : List Int)) _ hq0_1 (hH.okX 200 rfl) (by unfold Byte; decide) (by decide) (most := 1000) (by omega) (by omega) (by omega) (by unfold kmax; omega)) rfl rfl ?_
          rintro _ w ⟨vr64, rfl, hm_, hr_⟩; refine ⟨_, rfl, ?_⟩; clear hF; intro a hF; have hH := Hp.rowOut hH 64 hm_ hr_; obtain ⟨Ar64, cr64, rfl⟩ := (hH.row 64 rfl).form
          refine hK _ _ ?_; clear hK K
          have hm240 : m.length ≤ 240 := by omega
          rw [walkL_all2 hm240] at hF hH
          have hH := hH.freeze 64 rfl (fun kb => (Value.slice Ar64 m.length cr64).ownBlock = some kb) (fun kb => ⟨fun h => .inr h, fun h => h.resolve_left id⟩)
          refine l_atg hF ((wanted_of hF rfl rfl rfl rfl).trans rfl) rfl rfl (x_len_slice Try.underlying25 (hF.tmp 100 rfl)) ?_; clear hF; intro a hF
          refine l_atg hF ((wanted_of hF rfl rfl rfl rfl).trans rfl) rfl rfl (x_move (hF.tmp 13 rfl)) ?_; clear hF; intro a hF
          refine l_atg hF ((wanted_of hF rfl rfl rfl rfl).trans rfl) rfl rfl (x_eql (hF.tmp 101 rfl) (hF.tmp 102 rfl)) ?_; clear hF; intro a hF
          rw [decide_eq_true rfl] at hF
          refine l_at hF rfl rfl rfl (x_pickT (hF.tmp 98 rfl) rfl (hF.tmp 103 rfl)) ?_; clear hF; intro a hF
          refine l_at hF rfl rfl rfl (x_assign (hF.tmp 104 rfl)) ?_; clear hF; intro a hF
          refine wpList_nil ?_
          refine hK39 _ _ ?_
          refine wp_ret ?_
          try simp only [Exit.then, Exit.inBlock]
          exact fin_ret hF (res1 (v := .bool true) hF rfl rfl) ⟨rfl, hH.mods⟩

end Go.Proofs.Ytlcnoibjhmflnaa.Act
