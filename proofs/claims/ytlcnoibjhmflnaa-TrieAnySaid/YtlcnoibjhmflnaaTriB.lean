/- The trie's drops and copies, walked. -/
import Derived.Test.YtlcnoibjhmflnaaTriA
import Derived.Test.YtlcnoibjhmflnaaTrB
set_option linter.unusedVariables false
set_option linter.unusedSimpArgs false
namespace Go.Proofs.Ytlcnoibjhmflnaa.Act
open Go.RowKit Go.Proofs.Ytlcnoibjhmflnaa.Sx
set_option maxRecDepth 100000 in
set_option maxHeartbeats 1000000 in
theorem drop_calls : ∀ (n : Nat) (w0 : World) (tb root : Nat) (sz : Int) (S : List TRec) (p r : TRec) (rest : List Int) (bv : Nat) (v : List Int), rest.length < n → (Asn.all [(1, .blk tb (.cells #[ptrV root, .int .i64 sz, .int .i64 (S.length : Int)] 58 (0, 0))), (3, .arena 62 9 S)]).ok w0 → WF S [] root → MinBut S [] [] → p ∈ S → S.length ≤ 4000000 → r ∈ S → r.path = p.path ++ rest → r.val = some (bv, v) → Byte rest → rest.length ≤ 1000000 → Calls Try.prog 31 #[.pointer (some ⟨tb, 0, none⟩), ptrV p.nb, .string (strOfNums rest)] w0 fun e w' => ∃ S', e = .returned (.pointer (some ⟨bv, 0, none⟩)) ∧ DropP S S' root p (p.path ++ rest) ∧ Grew (fun _ => False) (fun _ => False) (Asn.all [(1, .blk tb (.cells #[ptrV root, .int .i64 sz, .int .i64 (S.length : Int)] 58 (0, 0))), (3, .arena 62 9 S)]) w0 w' (Asn.all [(1, .blk tb (.cells #[ptrV root, .int .i64 sz, .int .i64 (S'.length : Int)] 58 (0, 0))), (3, .arena 62 9 S')]) := by
  intro n
  induction n with
  | zero => intros; omega
  | succ n ih =>
    intro w0 tb root sz S p r rest bv v hn hok hw hm hp hS hr hrp hrv hrb hrl
    refine calls_of_wp Try.func31 rfl ?_
    have hF := Fr.enter #[.pointer (some ⟨tb, 0, none⟩), ptrV p.nb, .string (strOfNums rest)] 106 (slotsOf [.pointer (some ⟨tb, 0, none⟩), ptrV p.nb, .string (strOfNums rest)] 0) (Nat.le_of_ble_eq_true rfl) (fun i v h => by have h2 := (get_slotsOf _ 0 i v h).2; simpa only [List.getElem?_toArray, Nat.sub_zero] using h2)
    rw [Try.ntmps31]
    revert hF; generalize (⟨(#[.pointer (some ⟨tb, 0, none⟩), ptrV p.nb, .string (strOfNums rest)] : Array Value) ++ Array.replicate (106 - (#[.pointer (some ⟨tb, 0, none⟩), ptrV p.nb, .string (strOfNums rest)] : Array Value).size) undef, []⟩ : Act) = a; intro hF
    have hH := Hp.ofAll hok.holds
    have hpos := hH.arPos 3 rfl
    obtain ⟨S2, hS2⟩ := perm_of hp
    have hH := hH.arPerm 3 rfl hS2
    have hw1 := hw.perm hS2
    have hpos1 : ∀ r ∈ p :: S2, r.nb ≠ 0 := fun r hr => hpos r (hS2.mem_iff.2 hr)
    obtain ⟨bp, hbp, hH⟩ := hH.arOpen 3 11 12 14 (by decide) rfl
    rw [ptrV_of hbp] at hF
    refine wp_seq_k fun khK1 hK1 => ?_
    refine wp_region_lit ?_
    refine l_at hF rfl rfl rfl (x_assign rfl) ?_; clear hF; intro a hF
    refine wpList_nil ?_
    refine hK1 _ _ ?_
    refine wp_seq_k fun khK2 hK2 => ?_
    refine wp_seq_k fun khK3 hK3 => ?_
    refine wp_region_lit ?_
    refine l_at hF rfl rfl rfl (x_move (hF.tmp 2 rfl)) ?_; clear hF; intro a hF
    refine l_at hF rfl rfl rfl (x_eqn0 (xs := rest) (hF.tmp 12 rfl) (show _ = Value.string (strOfNums ([] : List Int)) by kernel_rfl)) ?_; clear hF; intro a hF
    refine wpList_nil ?_
    refine hK3 _ _ ?_
    refine wp_cond_split (hF.tmp 13 rfl) (fun hc13 => ?_) (fun hc13 => ?_)
    · have hk13_1 := hc13; try simp only [Bool.or_eq_true, Bool.and_eq_true, Bool.or_eq_false_iff, Bool.and_eq_false_iff, Bool.not_eq_true', Bool.not_eq_false', decide_eq_true_eq, decide_eq_false_iff_not, Bool.not_true, Bool.not_false] at hc13
      obtain rfl := List.length_eq_zero_iff.1 hc13
      have hrp' : p = r := (DropP.path hr hw hp hrp).symm
      subst hrp'
      refine wp_seq_k fun khK4 hK4 => ?_
      refine wp_region_lit ?_
      refine l_at hF rfl rfl rfl (x_move (hF.tmp 1 rfl)) ?_; clear hF; intro a hF
      refine l_at hF rfl rfl rfl (x_nil (hF.tmp 14 rfl)) ?_; clear hF; intro a hF
      refine l_at hF rfl rfl rfl (x_faddr Try.underlying62 rfl ty59 (by decide) (hF.tmp 15 rfl) rfl) ?_; clear hF; intro a hF
      refine l_at hF rfl rfl rfl (x_load1 ty59 (hF.tmp 16 rfl) (blk_cell (hH.at 11 rfl) 1 rfl)) ?_; clear hF; intro a hF
      rw [valA_of hrv] at hF
      refine l_at hF rfl rfl rfl (x_assign (hF.tmp 17 rfl)) ?_; clear hF; intro a hF
      refine wpList_nil ?_
      refine hK4 _ _ ?_
      refine wp_seq_k fun khK5 hK5 => ?_
      refine wp_region_lit ?_
      refine l_at hF rfl rfl rfl (x_move (hF.tmp 1 rfl)) ?_; clear hF; intro a hF
      refine l_at hF rfl rfl rfl (x_nil (hF.tmp 18 rfl)) ?_; clear hF; intro a hF
      refine l_at hF rfl rfl rfl (x_faddr Try.underlying62 rfl ty59 (by decide) (hF.tmp 19 rfl) rfl) ?_; clear hF; intro a hF
      refine wpList_plain rfl fun K hK => ?_
      refine w_store 11 hH ty59 rfl (hF.tmp 20 rfl) rfl rfl (one1 rfl rfl) (by first | decide | exact Nat.le_of_ble_eq_true rfl) ?_
      clear hH; intro w hH
      refine hK _ _ ?_; clear hK K
      have hH := hH.drop 15
      have hH := hH.arClose (r := ({ p with val := none } : TRec)) 3 11 12 15 (by decide) hbp rfl rfl rfl rfl
      have hH := hH.relab 1 (Y := .blk tb (.cells #[ptrV root, .int .i64 sz, .int .i64 ((({ p with val := none } : TRec) :: S2).length : Int)] 58 (0, 0))) rfl (by rw [hS2.length_eq]; rfl)
      refine wpList_nil ?_
      refine hK5 _ _ ?_
      refine wp_seq_k fun khK6 hK6 => ?_
      refine wp_region_lit ?_
      refine l_at hF rfl rfl rfl (x_move (hF.tmp 7 rfl)) ?_; clear hF; intro a hF
      refine l_at hF rfl rfl rfl (x_assign (hF.tmp 21 rfl)) ?_; clear hF; intro a hF
      refine wpList_nil ?_
      refine hK6 _ _ ?_
      refine wp_ret ?_
      try simp only [Exit.then, Exit.inBlock]
      have hh : Hp _ w0 w [(1, .blk tb (.cells #[ptrV root, .int .i64 sz, .int .i64 ((({ p with val := none } : TRec) :: S2).length : Int)] 58 (0, 0))), (3, .arena 62 9 (({ p with val := none } : TRec) :: S2))] := hH.sub _ (sub_cons (sub_cons (sub_nil _) 3 rfl) 1 rfl)
      have hD9 := (show DropP S (({ p with val := none } : TRec) :: S2) root p (p.path ++ []) from by rw [List.append_nil]; exact DropP.here hw hm hS2)
      exact fin_ret hF (res1 hF rfl rfl) ⟨_, rfl, hD9, grew_sub hh (fun _ _ h => h) (rdin_cons (fun k h => h.elim) (rdin_cons (fun k ⟨r, hr, u, hu⟩ => (let ⟨r0, h1, h2⟩ := hD9.vals r hr k u hu; .inr (.inl ⟨3, _, rfl, r0, h1, u, h2⟩))) rdin_nil))⟩
    · have hk13_2 := hc13; try simp only [Bool.or_eq_true, Bool.and_eq_true, Bool.or_eq_false_iff, Bool.and_eq_false_iff, Bool.not_eq_true', Bool.not_eq_false', decide_eq_true_eq, decide_eq_false_iff_not, Bool.not_true, Bool.not_false] at hc13
      refine wp_skip ?_
      refine hK2 _ _ ?_
      refine wp_seq_k fun khK7 hK7 => ?_
      refine r_start [(11, .blk bp (.cells #[.string (strOfNums p.lab), .pointer (valA p.val), .map (some p.mb)] 62 (0, 0))), (12, .map KB NV p.mb p.kids noB)] (by kernel_rfl) hH fun hH => ?_
      have hS : SL [(11, .blk bp (.cells #[.string (strOfNums p.lab), .pointer (valA p.val), .map (some p.mb)] 62 (0, 0))), (12, .map KB NV p.mb p.kids noB)] _ := SL.of hH (sub_cons (sub_cons (sub_nil _) 12 rfl) 11 rfl)
      refine r_take 0 hF rfl rfl rfl (by kernel_rfl) (by kernel_rfl) (by kernel_rfl) (fun _ _ _ h => h) rfl hS (fun w hS => x_move (hF.tmp 1 rfl)) rfl ?_; clear hF; intro a hF
      refine r_take 1 hF rfl rfl rfl (by kernel_rfl) (by kernel_rfl) (by kernel_rfl) (fun _ _ _ h => h) rfl hS (fun w hS => x_nil (hF.tmp 22 rfl)) rfl ?_; clear hF; intro a hF
      refine r_take 2 hF rfl rfl rfl (by kernel_rfl) (by kernel_rfl) (by kernel_rfl) (fun _ _ _ h => h) rfl hS (fun w hS => x_faddr Try.underlying62 rfl ty60 (by decide) (hF.tmp 23 rfl) rfl) rfl ?_; clear hF; intro a hF
      refine r_take 3 hF rfl rfl rfl (by kernel_rfl) (by kernel_rfl) (by kernel_rfl) (fun _ _ _ h => h) rfl hS (fun w hS => x_load1 ty60 (hF.tmp 24 rfl) (blk_cell (SL.at_ hS 11 rfl) 2 rfl)) rfl ?_; clear hF; intro a hF
      refine r_take 4 hF rfl rfl rfl (by kernel_rfl) (by kernel_rfl) (by kernel_rfl) (fun _ _ _ h => h) rfl hS (fun w hS => x_move (hF.tmp 2 rfl)) rfl ?_; clear hF; intro a hF
      refine r_take 5 hF rfl rfl rfl (by kernel_rfl) (by kernel_rfl) (by kernel_rfl) (fun _ _ _ h => h) rfl hS (fun w hS => x_idxS (xs := rest) Try.underlying9 (hF.tmp 26 rfl) rfl (by assumption) (by omega) (by omega)) rfl ?_; clear hF; intro a hF
      refine r_take 6 hF rfl rfl rfl (by kernel_rfl) (by kernel_rfl) (by kernel_rfl) (fun _ _ _ h => h) rfl hS (fun w hS => x_lookF (enc := ptrV) (x0 := 0) (k := (gi rest 0)) (hS 12 _ rfl) Try.underlying60 Try.underlying5 (ty56).zero (hF.tmp 25 rfl) (hF.tmp 27 rfl)) rfl ?_; clear hF; intro a hF
      refine r_take 7 hF rfl rfl rfl (by kernel_rfl) (by kernel_rfl) (by kernel_rfl) (fun _ _ _ h => h) rfl hS (fun w hS => x_assign (hF.tmp 28 rfl)) rfl ?_; clear hF; intro a hF
      refine r_end (by kernel_rfl) ?_; clear hS
      refine hK7 _ _ ?_
      refine wp_seq_k fun khK8 hK8 => ?_
      refine wp_seq_k fun khK9 hK9 => ?_
      refine wp_region_lit ?_
      refine l_at hF rfl rfl rfl (x_move (hF.tmp 8 rfl)) ?_; clear hF; intro a hF
      refine l_at hF rfl rfl rfl (x_ptrnil (pa := (ptrA ((al p.kids (gi rest 0)).getD 0))) Try.underlying56 (hF.tmp 29 rfl) rfl) ?_; clear hF; intro a hF
      refine l_at hF rfl rfl rfl (x_move (hF.tmp 30 rfl)) ?_; clear hF; intro a hF
      refine split_bool hF 31 rfl (fun hb31 => ?_) (fun hb31 => ?_)
      · have hc31 := hb31; try simp only [Bool.or_eq_true, Bool.and_eq_true, Bool.or_eq_false_iff, Bool.and_eq_false_iff, Bool.not_eq_true', Bool.not_eq_false', decide_eq_true_eq, decide_eq_false_iff_not, Bool.not_true, Bool.not_false] at hc31
        exact (drop_kid hw hr hp hrp (by omega) (hw1.kidNone (List.mem_cons_self ..) hpos1 hc31)).elim
      · have hc31 := hb31; try simp only [Bool.or_eq_true, Bool.and_eq_true, Bool.or_eq_false_iff, Bool.and_eq_false_iff, Bool.not_eq_true', Bool.not_eq_false', decide_eq_true_eq, decide_eq_false_iff_not, Bool.not_true, Bool.not_false] at hc31
        obtain ⟨q, hq, hkq⟩ := hw1.kidSome (List.mem_cons_self ..) hc31
        have hne := hw1.kid_ne (List.mem_cons_self ..) hq hkq
        obtain ⟨S3, hS3⟩ := perm_of ((List.mem_cons.1 hq).resolve_left (fun e => hne.1 e.symm))
        have hH := hH.arPerm 3 rfl hS3
        obtain ⟨bq, hbq, hH⟩ := hH.arOpen 3 21 22 24 (by decide) rfl
        rw [kidV hkq hbq] at hF
        have hqS : q ∈ S := hS2.mem_iff.2 hq
        have hpre : q.lab <+: rest := drop_pre hw hr hp hqS hrp (by omega) hkq
        have hqle := hpre.length_le
        refine l_atg hF ((wanted_of hF rfl rfl rfl rfl).trans (by rw [hb31]; rfl)) rfl rfl (x_move (hF.tmp 2 rfl)) ?_; clear hF; intro a hF
        refine l_atg hF ((wanted_of hF rfl rfl rfl rfl).trans (by rw [hb31]; rfl)) rfl rfl (x_move (hF.tmp 8 rfl)) ?_; clear hF; intro a hF
        refine l_atg hF ((wanted_of hF rfl rfl rfl rfl).trans (by rw [hb31]; rfl)) rfl rfl (x_nil (hF.tmp 33 rfl)) ?_; clear hF; intro a hF
        refine l_atg hF ((wanted_of hF rfl rfl rfl rfl).trans (by rw [hb31]; rfl)) rfl rfl (x_faddr Try.underlying62 rfl ty9 (by decide) (hF.tmp 34 rfl) rfl) ?_; clear hF; intro a hF
        refine l_atg hF ((wanted_of hF rfl rfl rfl rfl).trans (by rw [hb31]; rfl)) rfl rfl (x_load1 ty9 (hF.tmp 35 rfl) (blk_cell (hH.at 21 rfl) 0 rfl)) ?_; clear hF; intro a hF
        refine wpList_on ((wanted_of hF rfl rfl rfl rfl).trans (by rw [hb31]; rfl)) fun K hK => ?_
        refine w_call hF (x_enter Try.func30 (by kernel_rfl) rfl (by simp only [List.map_toArray, List.map_cons, List.map_nil, hF.tmp 32 rfl, hF.tmp 36 rfl] <;> rfl)) (pre_calls _ hrb (hw.byte q hqS).2.2.1 (by omega) (Nat.le_trans (hw.byte q hqS).2.2.2 (by decide))) rfl rfl ?_
        rintro _ w ⟨rfl, hm_⟩; refine ⟨_, rfl, ?_⟩; clear hF; intro a hF; have hH := hH.same hm_
        refine hK _ _ ?_; clear hK K
        refine l_atg hF ((wanted_of hF rfl rfl rfl rfl).trans (by rw [hb31]; rfl)) rfl rfl (x_not (hF.tmp 37 rfl)) ?_; clear hF; intro a hF
        refine l_at hF rfl rfl rfl (x_pickF (hF.tmp 31 rfl) hb31 (hF.tmp 38 rfl)) ?_; clear hF; intro a hF
        refine wpList_nil ?_
        refine hK9 _ _ ?_
        refine wp_cond_split (hF.tmp 39 rfl) (fun hc39 => ?_) (fun hc39 => ?_)
        · have hk39_3 := hc39; try simp only [Bool.or_eq_true, Bool.and_eq_true, Bool.or_eq_false_iff, Bool.and_eq_false_iff, Bool.not_eq_true', Bool.not_eq_false', decide_eq_true_eq, decide_eq_false_iff_not, Bool.not_true, Bool.not_false] at hc39
          exact absurd hpre hc39
        · have hk39_4 := hc39; try simp only [Bool.or_eq_true, Bool.and_eq_true, Bool.or_eq_false_iff, Bool.and_eq_false_iff, Bool.not_eq_true', Bool.not_eq_false', decide_eq_true_eq, decide_eq_false_iff_not, Bool.not_true, Bool.not_false] at hc39
          refine wp_skip ?_
          refine hK8 _ _ ?_
          refine wp_seq_k fun khK10 hK10 => ?_
          refine wp_region_lit ?_
          refine l_at hF rfl rfl rfl (x_move (hF.tmp 0 rfl)) ?_; clear hF; intro a hF
          refine l_at hF rfl rfl rfl (x_move (hF.tmp 8 rfl)) ?_; clear hF; intro a hF
          refine l_at hF rfl rfl rfl (x_move (hF.tmp 2 rfl)) ?_; clear hF; intro a hF
          refine l_at hF rfl rfl rfl (x_move (hF.tmp 8 rfl)) ?_; clear hF; intro a hF
          refine l_at hF rfl rfl rfl (x_nil (hF.tmp 43 rfl)) ?_; clear hF; intro a hF
          refine l_at hF rfl rfl rfl (x_faddr Try.underlying62 rfl ty9 (by decide) (hF.tmp 44 rfl) rfl) ?_; clear hF; intro a hF
          refine l_at hF rfl rfl rfl (x_load1 ty9 (hF.tmp 45 rfl) (blk_cell (hH.at 21 rfl) 0 rfl)) ?_; clear hF; intro a hF
          refine l_at hF rfl rfl rfl (x_len_sn (xs := q.lab) Try.underlying9 (hF.tmp 46 rfl)) ?_; clear hF; intro a hF
          refine l_at hF rfl rfl rfl (x_sliceSl (xs := rest) Try.underlying9 (hF.tmp 42 rfl) (hF.tmp 47 rfl) (by omega) (by omega)) ?_; clear hF; intro a hF
          rw [← ptrV_of hbq] at hF
          rw [← ptrV_of hbp] at hF
          have hH := hH.arClose (r := q) 3 21 22 24 (by decide) hbq rfl rfl rfl rfl
          have hH := hH.arClose (r := p) 3 11 12 14 (by decide) hbp rfl rfl rfl rfl
          have hH := hH.arPerm 3 rfl ((hS2.trans (hS3.cons p)).symm)
          have hH := hH.bundle 100 (L := [(1, .blk tb (.cells #[ptrV root, .int .i64 sz, .int .i64 (S.length : Int)] 58 (0, 0))), (3, .arena 62 9 S)]) (N := []) (sub_cons (sub_cons (sub_nil _) 3 rfl) 1 rfl) (sub_nil _) (apart_cons rfl (apart_cons rfl (apart_nil _)))
          refine wpList_plain rfl fun K hK => ?_
          refine w_call hF (x_enter Try.func31 (by kernel_rfl) rfl (by simp only [List.map_toArray, List.map_cons, List.map_nil, hF.tmp 40 rfl, hF.tmp 41 rfl, hF.tmp 48 rfl] <;> rfl)) (ih _ tb root sz S q r (rest.drop q.lab.length) bv v (by have := kid_lt hw hp hqS hkq hpre; omega) (hH.okX 100 rfl) hw hm hqS hS hr (kid_key hw hp hqS hkq hrp hpre) hrv (hrb.drop _) (by rw [List.length_drop]; omega)) rfl rfl ?_
          rintro _ w ⟨S4, rfl, hD, hg_⟩; refine ⟨_, rfl, ?_⟩; clear hF; intro a hF; rw [← kid_key hw hp hqS hkq hrp hpre, hrp] at hD; have hH := hH.grew 100 rfl hg_ (fun k hk => hk.elim)
          refine hK _ _ ?_; clear hK K
          have hH := hH.unbundle 100 rfl (N := []) (sub_nil _) rfl
          have hp4 := hD.par hw hp hqS hkq
          obtain ⟨q4, hq4, hqn, hqp⟩ := hD.self
          obtain ⟨S5, hS5⟩ := perm_of hp4
          have hq5 : q4 ∈ S5 := (List.mem_cons.1 (hS5.mem_iff.1 hq4)).resolve_left (fun e => (hw.kid_ne hp hqS hkq).1 (hw.path_inj hp hqS (by rw [← hqp, e])))
          obtain ⟨S6, hS6⟩ := perm_of hq5
          have hS46 : S4.Perm (p :: q4 :: S6) := hS5.trans (hS6.cons p)
          have hl46 : S4.length = S6.length + 2 := hS46.length_eq
          have hDl := hD.len
          have hb4 := hD.wf.byte q4 hq4
          have hH := hH.arPerm 3 rfl hS46
          obtain ⟨bp, hbp, hH⟩ := hH.arOpen 3 11 12 14 (by decide) rfl
          obtain ⟨bq, hbq, hH⟩ := hH.arOpen 3 21 22 24 (by decide) rfl
          rw [ptrV_of hbp] at hF
          rw [show ptrV q.nb = .pointer (some ⟨bq, 0, none⟩) from by rw [← hqn]; exact ptrV_of hbq] at hF
          refine l_at hF rfl rfl rfl (x_assign (hF.tmp 49 rfl)) ?_; clear hF; intro a hF
          refine wpList_nil ?_
          refine hK10 _ _ ?_
          refine wp_seq_k fun khK11 hK11 => ?_
          refine wp_seq_k fun khK12 hK12 => ?_
          refine wp_region_lit ?_
          refine l_at hF rfl rfl rfl (x_move (hF.tmp 8 rfl)) ?_; clear hF; intro a hF
          refine l_at hF rfl rfl rfl (x_nil (hF.tmp 50 rfl)) ?_; clear hF; intro a hF
          refine l_at hF rfl rfl rfl (x_faddr Try.underlying62 rfl ty59 (by decide) (hF.tmp 51 rfl) rfl) ?_; clear hF; intro a hF
          refine l_at hF rfl rfl rfl (x_load1 ty59 (hF.tmp 52 rfl) (blk_cell (hH.at 21 rfl) 1 rfl)) ?_; clear hF; intro a hF
          refine l_at hF rfl rfl rfl (x_ptrne (pa := (valA q4.val)) Try.underlying59 (hF.tmp 53 rfl) rfl) ?_; clear hF; intro a hF
          refine l_at hF rfl rfl rfl (x_move (hF.tmp 54 rfl)) ?_; clear hF; intro a hF
          refine split_bool hF 55 rfl (fun hb55 => ?_) (fun hb55 => ?_)
          · have hc55 := hb55; try simp only [Bool.or_eq_true, Bool.and_eq_true, Bool.or_eq_false_iff, Bool.and_eq_false_iff, Bool.not_eq_true', Bool.not_eq_false', decide_eq_true_eq, decide_eq_false_iff_not, Bool.not_true, Bool.not_false] at hc55
            have hfull : Full q4 := .inl (by rcases hx : q4.val with _ | ⟨x, y⟩; (· rw [hx] at hc55; cases hc55); (· rfl))
            have hH := hH.arClose (r := q4) 3 21 22 24 (by decide) hbq rfl rfl rfl rfl
            have hH := hH.arClose (r := p) 3 11 12 14 (by decide) hbp rfl rfl rfl rfl
            have hH := hH.arPerm 3 rfl hS46.symm
            refine l_offg hF ((wanted_of hF rfl rfl rfl rfl).trans (by rw [hb55]; rfl)) rfl rfl ?_; clear hF; intro a hF
            refine l_offg hF ((wanted_of hF rfl rfl rfl rfl).trans (by rw [hb55]; rfl)) rfl rfl ?_; clear hF; intro a hF
            refine l_offg hF ((wanted_of hF rfl rfl rfl rfl).trans (by rw [hb55]; rfl)) rfl rfl ?_; clear hF; intro a hF
            refine l_offg hF ((wanted_of hF rfl rfl rfl rfl).trans (by rw [hb55]; rfl)) rfl rfl ?_; clear hF; intro a hF
            refine l_offg hF ((wanted_of hF rfl rfl rfl rfl).trans (by rw [hb55]; rfl)) rfl rfl ?_; clear hF; intro a hF
            refine l_offg hF ((wanted_of hF rfl rfl rfl rfl).trans (by rw [hb55]; rfl)) rfl rfl ?_; clear hF; intro a hF
            refine l_at hF rfl rfl rfl (x_pickT (hF.tmp 55 rfl) hb55 rfl) ?_; clear hF; intro a hF
            refine wpList_nil ?_
            refine hK12 _ _ ?_
            refine wp_cond_true (hF.tmp 62 rfl) ?_
            refine wp_seq_k fun khK13 hK13 => ?_
            refine wp_region_lit ?_
            refine l_at hF rfl rfl rfl (x_move (hF.tmp 9 rfl)) ?_; clear hF; intro a hF
            refine l_at hF rfl rfl rfl (x_assign (hF.tmp 63 rfl)) ?_; clear hF; intro a hF
            refine wpList_nil ?_
            refine hK13 _ _ ?_
            refine wp_ret ?_
            try simp only [Exit.then, Exit.inBlock]
            have hh : Hp _ w0 w [(1, .blk tb (.cells #[ptrV root, .int .i64 sz, .int .i64 (S4.length : Int)] 58 (0, 0))), (3, .arena 62 9 S4)] := hH.sub _ (sub_cons (sub_cons (sub_nil _) 3 rfl) 1 rfl)
            have hD9 := hD.keep hw hp hqS hkq hq4 hqp hfull
            exact fin_ret hF (res1 hF rfl rfl) ⟨_, rfl, hD9, grew_sub hh (fun _ _ h => h) (rdin_cons (fun k h => h.elim) (rdin_cons (fun k ⟨r, hr, u, hu⟩ => (let ⟨r0, h1, h2⟩ := hD9.vals r hr k u hu; .inr (.inl ⟨3, _, rfl, r0, h1, u, h2⟩))) rdin_nil))⟩
          · have hc55 := hb55; try simp only [Bool.or_eq_true, Bool.and_eq_true, Bool.or_eq_false_iff, Bool.and_eq_false_iff, Bool.not_eq_true', Bool.not_eq_false', decide_eq_true_eq, decide_eq_false_iff_not, Bool.not_true, Bool.not_false] at hc55
            have hv4 := valA_none hc55
            refine l_atg hF ((wanted_of hF rfl rfl rfl rfl).trans (by rw [hb55]; rfl)) rfl rfl (x_move (hF.tmp 8 rfl)) ?_; clear hF; intro a hF
            refine l_atg hF ((wanted_of hF rfl rfl rfl rfl).trans (by rw [hb55]; rfl)) rfl rfl (x_nil (hF.tmp 56 rfl)) ?_; clear hF; intro a hF
            refine l_atg hF ((wanted_of hF rfl rfl rfl rfl).trans (by rw [hb55]; rfl)) rfl rfl (x_faddr Try.underlying62 rfl ty60 (by decide) (hF.tmp 57 rfl) rfl) ?_; clear hF; intro a hF
            refine l_atg hF ((wanted_of hF rfl rfl rfl rfl).trans (by rw [hb55]; rfl)) rfl rfl (x_load1 ty60 (hF.tmp 58 rfl) (blk_cell (hH.at 21 rfl) 2 rfl)) ?_; clear hF; intro a hF
            refine l_atg hF ((wanted_of hF rfl rfl rfl rfl).trans (by rw [hb55]; rfl)) rfl rfl (x_len_map (hH.map 22 rfl) Try.underlying60 (hF.tmp 59 rfl)) ?_; clear hF; intro a hF
            refine l_atg hF ((wanted_of hF rfl rfl rfl rfl).trans (by rw [hb55]; rfl)) rfl rfl (x_gtr (hF.tmp 60 rfl) rfl) ?_; clear hF; intro a hF
            refine l_at hF rfl rfl rfl (x_pickF (hF.tmp 55 rfl) hb55 (hF.tmp 61 rfl)) ?_; clear hF; intro a hF
            refine wpList_nil ?_
            refine hK12 _ _ ?_
            refine wp_cond_split (hF.tmp 62 rfl) (fun hc62 => ?_) (fun hc62 => ?_)
            · have hk62_5 := hc62; try simp only [Bool.or_eq_true, Bool.and_eq_true, Bool.or_eq_false_iff, Bool.and_eq_false_iff, Bool.not_eq_true', Bool.not_eq_false', decide_eq_true_eq, decide_eq_false_iff_not, Bool.not_true, Bool.not_false] at hc62
              have hfull : Full q4 := .inr (by omega)
              have hH := hH.arClose (r := q4) 3 21 22 24 (by decide) hbq rfl rfl rfl rfl
              have hH := hH.arClose (r := p) 3 11 12 14 (by decide) hbp rfl rfl rfl rfl
              have hH := hH.arPerm 3 rfl hS46.symm
              refine wp_seq_k fun khK14 hK14 => ?_
              refine wp_region_lit ?_
              refine l_at hF rfl rfl rfl (x_move (hF.tmp 9 rfl)) ?_; clear hF; intro a hF
              refine l_at hF rfl rfl rfl (x_assign (hF.tmp 63 rfl)) ?_; clear hF; intro a hF
              refine wpList_nil ?_
              refine hK14 _ _ ?_
              refine wp_ret ?_
              try simp only [Exit.then, Exit.inBlock]
              have hh : Hp _ w0 w [(1, .blk tb (.cells #[ptrV root, .int .i64 sz, .int .i64 (S4.length : Int)] 58 (0, 0))), (3, .arena 62 9 S4)] := hH.sub _ (sub_cons (sub_cons (sub_nil _) 3 rfl) 1 rfl)
              have hD9 := hD.keep hw hp hqS hkq hq4 hqp hfull
              exact fin_ret hF (res1 hF rfl rfl) ⟨_, rfl, hD9, grew_sub hh (fun _ _ h => h) (rdin_cons (fun k h => h.elim) (rdin_cons (fun k ⟨r, hr, u, hu⟩ => (let ⟨r0, h1, h2⟩ := hD9.vals r hr k u hu; .inr (.inl ⟨3, _, rfl, r0, h1, u, h2⟩))) rdin_nil))⟩
            · have hk62_6 := hc62; try simp only [Bool.or_eq_true, Bool.and_eq_true, Bool.or_eq_false_iff, Bool.and_eq_false_iff, Bool.not_eq_true', Bool.not_eq_false', decide_eq_true_eq, decide_eq_false_iff_not, Bool.not_true, Bool.not_false] at hc62
              have hk2 : q4.kids.length ≤ 1 := by omega
              refine wp_skip ?_
              refine hK11 _ _ ?_
              refine wp_seq_k fun khK15 hK15 => ?_
              refine r_start [(11, .blk bp (.cells #[.string (strOfNums p.lab), .pointer (valA p.val), .map (some p.mb)] 62 (0, 0)))] (by kernel_rfl) hH fun hH => ?_
              have hS : SL [(11, .blk bp (.cells #[.string (strOfNums p.lab), .pointer (valA p.val), .map (some p.mb)] 62 (0, 0)))] _ := SL.of hH (sub_cons (sub_nil _) 11 rfl)
              refine r_take 0 hF rfl rfl rfl (by kernel_rfl) (by kernel_rfl) (by kernel_rfl) (fun _ _ _ h => h) rfl hS (fun w hS => x_move (hF.tmp 1 rfl)) rfl ?_; clear hF; intro a hF
              refine r_take 1 hF rfl rfl rfl (by kernel_rfl) (by kernel_rfl) (by kernel_rfl) (fun _ _ _ h => h) rfl hS (fun w hS => x_nil (hF.tmp 64 rfl)) rfl ?_; clear hF; intro a hF
              refine r_take 2 hF rfl rfl rfl (by kernel_rfl) (by kernel_rfl) (by kernel_rfl) (fun _ _ _ h => h) rfl hS (fun w hS => x_faddr Try.underlying62 rfl ty60 (by decide) (hF.tmp 65 rfl) rfl) rfl ?_; clear hF; intro a hF
              refine r_take 3 hF rfl rfl rfl (by kernel_rfl) (by kernel_rfl) (by kernel_rfl) (fun _ _ _ h => h) rfl hS (fun w hS => x_load1 ty60 (hF.tmp 66 rfl) (blk_cell (SL.at_ hS 11 rfl) 2 rfl)) rfl ?_; clear hF; intro a hF
              refine r_take 4 hF rfl rfl rfl (by kernel_rfl) (by kernel_rfl) (by kernel_rfl) (fun _ _ _ h => h) rfl hS (fun w hS => x_move (hF.tmp 2 rfl)) rfl ?_; clear hF; intro a hF
              refine r_take 5 hF rfl rfl rfl (by kernel_rfl) (by kernel_rfl) (by kernel_rfl) (fun _ _ _ h => h) rfl hS (fun w hS => x_idxS (xs := rest) Try.underlying9 (hF.tmp 68 rfl) rfl (by assumption) (by omega) (by omega)) rfl ?_; clear hF; intro a hF
              refine r_do 6 rfl (by kernel_rfl) rfl rfl ?_
              refine w_mapDel0 12 (k := (gi rest 0)) hH rfl Try.underlying60 Try.underlying5 (hF.tmp 67 rfl) (hF.tmp 69 rfl) ?_
              clear hH; intro w hH
              clear hS; have hS : SL _ _ := SL.of hH (sub_cons (sub_nil _) 11 rfl); refine ⟨hS, ?_⟩
              refine r_end (by kernel_rfl) ?_; clear hS
              refine hK15 _ _ ?_
              refine wp_seq_k fun khK16 hK16 => ?_
              refine wp_region_lit ?_
              refine l_at hF rfl rfl rfl (x_move (hF.tmp 0 rfl)) ?_; clear hF; intro a hF
              refine l_at hF rfl rfl rfl (x_nil (hF.tmp 70 rfl)) ?_; clear hF; intro a hF
              refine l_at hF rfl rfl rfl (x_faddr Try.underlying58 rfl ty3 (by decide) (hF.tmp 71 rfl) rfl) ?_; clear hF; intro a hF
              refine l_at hF rfl rfl rfl (x_load1 ty3 (hF.tmp 72 rfl) (blk_cell (hH.at 1 rfl) 2 rfl)) ?_; clear hF; intro a hF
              refine l_at hF rfl rfl rfl (x_sub (hF.tmp 73 rfl) rfl (w64 (by omega) (by omega))) ?_; clear hF; intro a hF
              refine l_at hF rfl rfl rfl (x_nil (hF.tmp 70 rfl)) ?_; clear hF; intro a hF
              refine l_at hF rfl rfl rfl (x_faddr Try.underlying58 rfl ty3 (by decide) (hF.tmp 75 rfl) rfl) ?_; clear hF; intro a hF
              refine wpList_plain rfl fun K hK => ?_
              refine w_store 1 hH ty3 rfl (hF.tmp 76 rfl) (hF.tmp 74 rfl) rfl (one1 rfl rfl) (by first | decide | exact Nat.le_of_ble_eq_true rfl) ?_
              clear hH; intro w hH
              refine hK _ _ ?_; clear hK K
              refine wpList_nil ?_
              refine hK16 _ _ ?_
              refine wp_seq_k fun khK17 hK17 => ?_
              refine wp_seq_k fun khK18 hK18 => ?_
              refine wp_region_lit ?_
              refine l_at hF rfl rfl rfl (x_move (hF.tmp 8 rfl)) ?_; clear hF; intro a hF
              refine l_at hF rfl rfl rfl (x_nil (hF.tmp 77 rfl)) ?_; clear hF; intro a hF
              refine l_at hF rfl rfl rfl (x_faddr Try.underlying62 rfl ty60 (by decide) (hF.tmp 78 rfl) rfl) ?_; clear hF; intro a hF
              refine l_at hF rfl rfl rfl (x_load1 ty60 (hF.tmp 79 rfl) (blk_cell (hH.at 21 rfl) 2 rfl)) ?_; clear hF; intro a hF
              have hH := hH.roAny 22 rfl
              refine wpList_plain rfl fun K hK => ?_
              refine w_range 25 22 hF hH rfl rfl Try.underlying60 (hF.tmp 80 rfl) ?_
              clear hF hH; intro a w it81 hF hH
              refine hK _ _ ?_; clear hK K
              refine wpList_nil ?_
              refine hK18 _ _ ?_
              refine wp_block ?_
              refine wp_loop_ghost (fun n_ a w => ∃ rs : List (Int × Nat), ∃ M : List (Int × Nat), ∃ R : List TRec, ∃ cur_ : Option ((Int × Nat) × Value), n_ = rs.length ∧ ((rs = q4.kids ∧ M = mdel p.kids (gi rest 0) ∧ S6 = R) ∨ (rs = [] ∧ ∃ o S8 c2, S6.Perm (o :: S8) ∧ q4.kids = [(c2, o.nb)] ∧ M = (mput (mdel p.kids (gi rest 0)) (gi rest 0) o.nb) ∧ ({ o with lab := q4.lab ++ o.lab } : TRec) :: S8 = R)) ∧ Fr 106 a [(1, .pointer (some ⟨bp, 0, none⟩)), (2, .string (strOfNums rest)), (8, .pointer (some ⟨bq, 0, none⟩)), (9, .pointer (some ⟨bv, 0, none⟩)), (81, .pointer (some ⟨it81, 0, none⟩))] ∧ Hp (OwnL [(1, .blk tb (.cells #[ptrV root, .int .i64 sz, .int .i64 (S.length : Int)] 58 (0, 0))), (3, .arena 62 9 S)]) w0 w [(1, .blk tb (.cells #[ptrV root, .int .i64 sz, .int .i64 ((S4.length : Int) - 1)] 58 (0, 0))), (3, .arena 62 9 R), (11, .blk bp (.cells #[.string (strOfNums p.lab), .pointer (valA p.val), .map (some p.mb)] 62 (0, 0))), (12, .map KB NV p.mb M noB), (14, vro 9 p.val), (21, .blk bq (.cells #[.string (strOfNums q4.lab), .pointer (valA q4.val), .map (some q4.mb)] 62 (0, 0))), (22, .ro (.map KB NV q4.mb q4.kids noB)), (24, vro 9 q4.val), (25, .iter KB NV q4.mb it81 q4.kids rs cur_ (fun k => noB k ∧ k ≠ q4.mb))]) (q4.kids.length) ?_ ?_
              · exact ⟨q4.kids, (mdel p.kids (gi rest 0)), S6, none, rfl, (.inl ⟨rfl, rfl, rfl⟩), (((((hF.bare.add hF 81 rfl).add hF 9 rfl).add hF 8 rfl).add hF 2 rfl).add hF 1 rfl), hH.sub _ (sub_cons (sub_cons (sub_cons (sub_cons (sub_cons (sub_cons (sub_cons (sub_cons (sub_cons (sub_nil _) 25 rfl) 24 rfl) 22 rfl) 21 rfl) 14 rfl) 12 rfl) 11 rfl) 3 rfl) 1 rfl)⟩
              · rintro _ a w ⟨rs, M, R, cur_, rfl, hq0_0, hF, hH⟩
                refine wp_seq_k fun khK19 hK19 => ?_
                refine wp_region_lit ?_
                refine wpList_plain rfl fun K hK => ?_
                refine w_next 25 hF hH rfl rfl (hF.tmp 81 rfl) (fun a hr0 hF hH => hK _ _ ?_) (fun a w r1 p82 r2 v82 hr1 hF hH => hK _ _ ?_) <;> clear hK K
                ·
                  refine l_at hF rfl rfl rfl (x_extract (hF.tmp 82 rfl) rfl) ?_; clear hF; intro a hF
                  refine wpList_nil ?_
                  refine hK19 _ _ ?_
                  refine wp_seq_k fun khK20 hK20 => ?_
                  refine wp_cond_false (hF.tmp 83 rfl) ?_
                  refine wp_exit ?_
                  refine hK17 _ _ ?_
                  refine wp_seq_k fun khK21 hK21 => ?_
                  refine wp_region_lit ?_
                  refine l_at hF rfl rfl rfl (x_move (hF.tmp 9 rfl)) ?_; clear hF; intro a hF
                  refine l_at hF rfl rfl rfl (x_assign (hF.tmp 105 rfl)) ?_; clear hF; intro a hF
                  refine wpList_nil ?_
                  refine hK21 _ _ ?_
                  refine wp_ret ?_
                  try simp only [Exit.then, Exit.inBlock]
                  rcases hq0_0 with ⟨hrs, rfl, rfl⟩ | ⟨_, o, S8, c2, hS8, hk4, rfl, rfl⟩
                  · have hH := hH.arClose (r := ({ p with kids := mdel p.kids (gi rest 0) } : TRec)) 3 11 12 14 (by decide) hbp rfl rfl rfl rfl
                    have hH := hH.relab 1 (Y := .blk tb (.cells #[ptrV root, .int .i64 sz, .int .i64 ((({ p with kids := mdel p.kids (gi rest 0) } : TRec) :: S6).length : Int)] 58 (0, 0))) rfl (by rw [show ((({ p with kids := mdel p.kids (gi rest 0) } : TRec) :: S6).length : Int) = (S4.length : Int) - 1 from by rw [hl46]; simp only [List.length_cons]; omega] <;> rfl)
                    have hh : Hp _ w0 w [(1, .blk tb (.cells #[ptrV root, .int .i64 sz, .int .i64 ((({ p with kids := mdel p.kids (gi rest 0) } : TRec) :: S6).length : Int)] 58 (0, 0))), (3, .arena 62 9 (({ p with kids := mdel p.kids (gi rest 0) } : TRec) :: S6))] := hH.sub _ (sub_cons (sub_cons (sub_nil _) 3 rfl) 1 rfl)
                    have hD9 := hD.del0 hw hp hqS hkq hS46 hqn hqp hv4 (by rw [← hrs, hr0])
                    exact fin_ret hF (res1 hF rfl rfl) ⟨_, rfl, hD9, grew_sub hh (fun _ _ h => h) (rdin_cons (fun k h => h.elim) (rdin_cons (fun k ⟨r, hr, u, hu⟩ => (let ⟨r0, h1, h2⟩ := hD9.vals r hr k u hu; .inr (.inl ⟨3, _, rfl, r0, h1, u, h2⟩))) rdin_nil))⟩
                  · have hH := hH.arClose (r := ({ p with kids := mput (mdel p.kids (gi rest 0)) (gi rest 0) o.nb } : TRec)) 3 11 12 14 (by decide) hbp rfl rfl rfl rfl
                    have hH := hH.relab 1 (Y := .blk tb (.cells #[ptrV root, .int .i64 sz, .int .i64 ((({ p with kids := mput (mdel p.kids (gi rest 0)) (gi rest 0) o.nb } : TRec) :: ({ o with lab := q4.lab ++ o.lab } :: S8)).length : Int)] 58 (0, 0))) rfl (by rw [show ((({ p with kids := mput (mdel p.kids (gi rest 0)) (gi rest 0) o.nb } : TRec) :: ({ o with lab := q4.lab ++ o.lab } :: S8)).length : Int) = (S4.length : Int) - 1 from by have h8 := hS8.length_eq; rw [hl46, h8]; simp only [List.length_cons]; omega] <;> rfl)
                    have hh : Hp _ w0 w [(1, .blk tb (.cells #[ptrV root, .int .i64 sz, .int .i64 ((({ p with kids := mput (mdel p.kids (gi rest 0)) (gi rest 0) o.nb } : TRec) :: ({ o with lab := q4.lab ++ o.lab } :: S8)).length : Int)] 58 (0, 0))), (3, .arena 62 9 (({ p with kids := mput (mdel p.kids (gi rest 0)) (gi rest 0) o.nb } : TRec) :: ({ o with lab := q4.lab ++ o.lab } :: S8)))] := hH.sub _ (sub_cons (sub_cons (sub_nil _) 3 rfl) 1 rfl)
                    have hD9 := hD.del1 hw hp hqS hkq hS46 hS8 hqn hqp hv4 hk4
                    exact fin_ret hF (res1 hF rfl rfl) ⟨_, rfl, hD9, grew_sub hh (fun _ _ h => h) (rdin_cons (fun k h => h.elim) (rdin_cons (fun k ⟨r, hr, u, hu⟩ => (let ⟨r0, h1, h2⟩ := hD9.vals r hr k u hu; .inr (.inl ⟨3, _, rfl, r0, h1, u, h2⟩))) rdin_nil))⟩
                ·
                  obtain rfl : v82 = ptrV p82.2 := hH.curR 25 rfl
                  rcases hq0_0 with ⟨hrs, rfl, rfl⟩ | ⟨hrs, _⟩
                  rotate_left
                  · rw [hrs] at hr1; cases r1 <;> cases hr1
                  have hk1 : q4.kids = r1 ++ p82 :: r2 := by rw [← hrs]; exact hr1
                  have hrr : r1 = [] ∧ r2 = [] := by have h1 := congrArg List.length hk1; rw [List.length_append, List.length_cons] at h1; exact ⟨List.length_eq_zero_iff.1 (by omega), List.length_eq_zero_iff.1 (by omega)⟩
                  have hk4' : q4.kids = [p82] := by rw [hk1, hrr.1, hrr.2]; rfl
                  obtain ⟨o, ho, hon, hop, hoh⟩ := hD.wf.kid q4 hq4 p82.1 p82.2 (by rw [hk4']; simp [al])
                  have hk4 : q4.kids = [(p82.1, o.nb)] := by rw [hk4', hon]
                  have hoc : al q4.kids p82.1 = some o.nb := by rw [hk4]; simp [al]
                  have hol := kid_len hD.wf hq4 ho hoc
                  have hql := kid_len hw hp hqS hkq
                  have hoS : o ∈ S6 := by have h1 := hS46.mem_iff.1 ho; simp only [List.mem_cons] at h1; rcases h1 with rfl | rfl | h1; (· rw [hqp] at hol; omega); (· omega); (· exact h1)
                  obtain ⟨S8, hS8⟩ := perm_of hoS
                  have hbo := hD.wf.byte o ho
                  have hH := hH.arPerm 3 rfl hS8
                  obtain ⟨bo, hbo2, hH⟩ := hH.arOpen 3 31 32 34 (by decide) rfl
                  rw [show ptrV p82.2 = .pointer (some ⟨bo, 0, none⟩) from by rw [← hon]; exact ptrV_of hbo2] at hF hH
                  refine l_at hF rfl rfl rfl (x_extract (hF.tmp 82 rfl) rfl) ?_; clear hF; intro a hF
                  refine wpList_nil ?_
                  refine hK19 _ _ ?_
                  refine wp_seq_k fun khK22 hK22 => ?_
                  refine wp_cond_true (hF.tmp 83 rfl) ?_
                  refine wp_skip ?_
                  refine hK22 _ _ ?_
                  refine wp_block ?_
                  refine wp_seq_k fun khK23 hK23 => ?_
                  refine wp_region_lit ?_
                  refine l_at hF rfl rfl rfl (x_entry 25 hH rfl (hF.tmp 81 rfl)) ?_; clear hF; intro a hF
                  refine l_at hF rfl rfl rfl (x_extract (hF.tmp 84 rfl) rfl) ?_; clear hF; intro a hF
                  refine l_at hF rfl rfl rfl (x_assign (hF.tmp 85 rfl)) ?_; clear hF; intro a hF
                  refine wpList_nil ?_
                  refine hK23 _ _ ?_
                  refine wp_seq_k fun khK24 hK24 => ?_
                  refine r_start [(21, .blk bq (.cells #[.string (strOfNums q4.lab), .pointer (valA q4.val), .map (some q4.mb)] 62 (0, 0)))] (by kernel_rfl) hH fun hH => ?_
                  have hS : SL [(21, .blk bq (.cells #[.string (strOfNums q4.lab), .pointer (valA q4.val), .map (some q4.mb)] 62 (0, 0)))] _ := SL.of hH (sub_cons (sub_nil _) 21 rfl)
                  refine r_take 0 hF rfl rfl rfl (by kernel_rfl) (by kernel_rfl) (by kernel_rfl) (fun _ _ _ h => h) rfl hS (fun w hS => x_move (hF.tmp 11 rfl)) rfl ?_; clear hF; intro a hF
                  refine r_take 1 hF rfl rfl rfl (by kernel_rfl) (by kernel_rfl) (by kernel_rfl) (fun _ _ _ h => h) rfl hS (fun w hS => x_move (hF.tmp 8 rfl)) rfl ?_; clear hF; intro a hF
                  refine r_take 2 hF rfl rfl rfl (by kernel_rfl) (by kernel_rfl) (by kernel_rfl) (fun _ _ _ h => h) rfl hS (fun w hS => x_nil (hF.tmp 87 rfl)) rfl ?_; clear hF; intro a hF
                  refine r_take 3 hF rfl rfl rfl (by kernel_rfl) (by kernel_rfl) (by kernel_rfl) (fun _ _ _ h => h) rfl hS (fun w hS => x_faddr Try.underlying62 rfl ty9 (by decide) (hF.tmp 88 rfl) rfl) rfl ?_; clear hF; intro a hF
                  refine r_take 4 hF rfl rfl rfl (by kernel_rfl) (by kernel_rfl) (by kernel_rfl) (fun _ _ _ h => h) rfl hS (fun w hS => x_load1 ty9 (hF.tmp 89 rfl) (blk_cell (SL.at_ hS 21 rfl) 0 rfl)) rfl ?_; clear hF; intro a hF
                  refine r_take 5 hF rfl rfl rfl (by kernel_rfl) (by kernel_rfl) (by kernel_rfl) (fun _ _ _ h => h) rfl hS (fun w hS => x_move (hF.tmp 11 rfl)) rfl ?_; clear hF; intro a hF
                  refine r_take 6 hF rfl rfl rfl (by kernel_rfl) (by kernel_rfl) (by kernel_rfl) (fun _ _ _ h => h) rfl hS (fun w hS => x_nil (hF.tmp 91 rfl)) rfl ?_; clear hF; intro a hF
                  refine r_take 7 hF rfl rfl rfl (by kernel_rfl) (by kernel_rfl) (by kernel_rfl) (fun _ _ _ h => h) rfl hS (fun w hS => x_faddr Try.underlying62 rfl ty9 (by decide) (hF.tmp 92 rfl) rfl) rfl ?_; clear hF; intro a hF
                  refine r_do 8 rfl (by kernel_rfl) rfl rfl ?_
                  refine w_at hF (x_load1 ty9 (hF.tmp 93 rfl) (blk_cell (hH.at 31 rfl) 0 rfl)) rfl rfl ?_
                  clear hF; intro a hF
                  clear hS; have hS : SL _ _ := SL.of hH (sub_cons (sub_nil _) 21 rfl); refine ⟨hS, ?_⟩
                  refine r_take 9 hF rfl rfl rfl (by kernel_rfl) (by kernel_rfl) (by kernel_rfl) (fun _ _ _ h => h) rfl hS (fun w hS => x_adds (xs := q4.lab) (ys := o.lab) (hF.tmp 90 rfl) (hF.tmp 94 rfl) (by omega)) rfl ?_; clear hF; intro a hF
                  refine r_take 10 hF rfl rfl rfl (by kernel_rfl) (by kernel_rfl) (by kernel_rfl) (fun _ _ _ h => h) rfl hS (fun w hS => x_nil (hF.tmp 86 rfl)) rfl ?_; clear hF; intro a hF
                  refine r_take 11 hF rfl rfl rfl (by kernel_rfl) (by kernel_rfl) (by kernel_rfl) (fun _ _ _ h => h) rfl hS (fun w hS => x_faddr Try.underlying62 rfl ty9 (by decide) (hF.tmp 96 rfl) rfl) rfl ?_; clear hF; intro a hF
                  refine r_do 12 rfl (by kernel_rfl) rfl rfl ?_
                  refine w_store 31 hH ty9 rfl (hF.tmp 97 rfl) (hF.tmp 95 rfl) rfl (one1 rfl rfl) (by first | decide | exact Nat.le_of_ble_eq_true rfl) ?_
                  clear hH; intro w hH
                  clear hS; have hS : SL _ _ := SL.of hH (sub_cons (sub_nil _) 21 rfl); refine ⟨hS, ?_⟩
                  refine r_end (by kernel_rfl) ?_; clear hS
                  refine hK24 _ _ ?_
                  refine r_start [(11, .blk bp (.cells #[.string (strOfNums p.lab), .pointer (valA p.val), .map (some p.mb)] 62 (0, 0)))] (by kernel_rfl) hH fun hH => ?_
                  have hS : SL [(11, .blk bp (.cells #[.string (strOfNums p.lab), .pointer (valA p.val), .map (some p.mb)] 62 (0, 0)))] _ := SL.of hH (sub_cons (sub_nil _) 11 rfl)
                  refine r_take 0 hF rfl rfl rfl (by kernel_rfl) (by kernel_rfl) (by kernel_rfl) (fun _ _ _ h => h) rfl hS (fun w hS => x_move (hF.tmp 1 rfl)) rfl ?_; clear hF; intro a hF
                  refine r_take 1 hF rfl rfl rfl (by kernel_rfl) (by kernel_rfl) (by kernel_rfl) (fun _ _ _ h => h) rfl hS (fun w hS => x_nil (hF.tmp 98 rfl)) rfl ?_; clear hF; intro a hF
                  refine r_take 2 hF rfl rfl rfl (by kernel_rfl) (by kernel_rfl) (by kernel_rfl) (fun _ _ _ h => h) rfl hS (fun w hS => x_faddr Try.underlying62 rfl ty60 (by decide) (hF.tmp 99 rfl) rfl) rfl ?_; clear hF; intro a hF
                  refine r_take 3 hF rfl rfl rfl (by kernel_rfl) (by kernel_rfl) (by kernel_rfl) (fun _ _ _ h => h) rfl hS (fun w hS => x_load1 ty60 (hF.tmp 100 rfl) (blk_cell (SL.at_ hS 11 rfl) 2 rfl)) rfl ?_; clear hF; intro a hF
                  refine r_take 4 hF rfl rfl rfl (by kernel_rfl) (by kernel_rfl) (by kernel_rfl) (fun _ _ _ h => h) rfl hS (fun w hS => x_move (hF.tmp 2 rfl)) rfl ?_; clear hF; intro a hF
                  refine r_take 5 hF rfl rfl rfl (by kernel_rfl) (by kernel_rfl) (by kernel_rfl) (fun _ _ _ h => h) rfl hS (fun w hS => x_idxS (xs := rest) Try.underlying9 (hF.tmp 102 rfl) rfl (by assumption) (by omega) (by omega)) rfl ?_; clear hF; intro a hF
                  refine r_take 6 hF rfl rfl rfl (by kernel_rfl) (by kernel_rfl) (by kernel_rfl) (fun _ _ _ h => h) rfl hS (fun w hS => x_move (hF.tmp 11 rfl)) rfl ?_; clear hF; intro a hF
                  refine r_do 7 rfl (by kernel_rfl) rfl rfl ?_
                  refine w_mapSet 12 (k := (gi rest 0)) (yv := o.nb) noB hH rfl Try.underlying60 Try.underlying5 (hF.tmp 101 rfl) (hF.tmp 103 rfl) (hF.tmp 104 rfl) (ptrV_of hbo2).symm (fun k hk => hk) (fun k hk => .inl hk) ?_
                  clear hH; intro w hH
                  clear hS; have hS : SL _ _ := SL.of hH (sub_cons (sub_nil _) 11 rfl); refine ⟨hS, ?_⟩
                  have hH := hH.arClose (r := ({ o with lab := q4.lab ++ o.lab } : TRec)) 3 31 32 34 (by decide) hbo2 rfl rfl rfl rfl
                  refine r_end (by kernel_rfl) ?_; clear hS
                  exact ⟨_, (by rw [hr1]; simp only [List.length_append, List.length_cons]; omega), ⟨_, _, _, _, rfl, (.inr ⟨by rw [hrr.1, hrr.2]; rfl, o, S8, p82.1, hS8, hk4, rfl, rfl⟩), (((((hF.bare.add hF 81 rfl).add hF 9 rfl).add hF 8 rfl).add hF 2 rfl).add hF 1 rfl), hH.sub _ (sub_cons (sub_cons (sub_cons (sub_cons (sub_cons (sub_cons (sub_cons (sub_cons (sub_cons (sub_nil _) 25 rfl) 24 rfl) 22 rfl) 21 rfl) 14 rfl) 12 rfl) 11 rfl) 3 rfl) 1 rfl)⟩⟩

set_option maxRecDepth 100000 in
set_option maxHeartbeats 1000000 in
theorem drop1_calls (w0 : World) {X : Asn} {tb : Nat} {l : List Ent} (hX : TrieA 58 62 9 tb l X) (hok : X.ok w0) {key : List Int} (hkb : Byte key) (hkl : key.length ≤ 9223372036854775807) (hll : l.length ≤ 1000000) : Calls Try.prog 16 #[.pointer (some ⟨tb, 0, none⟩), .string (strOfNums key)] w0 fun e w' => ∃ X', e = .returned (.tuple #[.string (strOfNums ((al l key).getD [])), .bool (al l key).isSome]) ∧ TrieA 58 62 9 tb (dropL l key) X' ∧ Grew (fun _ => False) (fun _ => False) X w0 w' X' := by
  refine calls_of_wp Try.func16 rfl ?_
  have hF := Fr.enter #[.pointer (some ⟨tb, 0, none⟩), .string (strOfNums key)] 32 (slotsOf [.pointer (some ⟨tb, 0, none⟩), .string (strOfNums key)] 0) (Nat.le_of_ble_eq_true rfl) (fun i v h => by have h2 := (get_slotsOf _ 0 i v h).2; simpa only [List.getElem?_toArray, Nat.sub_zero] using h2)
  rw [Try.ntmps16]
  revert hF; generalize (⟨(#[.pointer (some ⟨tb, 0, none⟩), .string (strOfNums key)] : Array Value) ++ Array.replicate (32 - (#[.pointer (some ⟨tb, 0, none⟩), .string (strOfNums key)] : Array Value).size) undef, []⟩ : Act) = a; intro hF
  have hH := Hp.own1 hok 100
  refine wp_seq_k fun khK1 hK1 => ?_
  refine wp_region_lit ?_
  refine l_at hF rfl rfl rfl (x_assign (show _ = Value.string (strOfNums ([] : List Int)) by kernel_rfl)) ?_; clear hF; intro a hF
  refine l_at hF rfl rfl rfl (x_assign rfl) ?_; clear hF; intro a hF
  refine wpList_nil ?_
  refine hK1 _ _ ?_
  refine wp_seq_k fun khK2 hK2 => ?_
  refine wp_seq_k fun khK3 hK3 => ?_
  refine wp_region_lit ?_
  refine l_at hF rfl rfl rfl (x_move (hF.tmp 0 rfl)) ?_; clear hF; intro a hF
  refine l_at hF rfl rfl rfl (x_move (hF.tmp 1 rfl)) ?_; clear hF; intro a hF
  refine wpList_plain rfl fun K hK => ?_
  refine w_call hF (x_enter Try.func11 (by kernel_rfl) rfl (by simp only [List.map_toArray, List.map_cons, List.map_nil, hF.tmp 9 rfl, hF.tmp 10 rfl] <;> rfl)) (get_calls _ hX (hH.okX 100 rfl) hkb hkl) rfl rfl ?_
  rintro _ w ⟨rfl, hm_⟩; refine ⟨_, rfl, ?_⟩; clear hF; intro a hF; have hH := hH.same hm_
  refine hK _ _ ?_; clear hK K
  refine l_at hF rfl rfl rfl (x_move (hF.tmp 11 rfl)) ?_; clear hF; intro a hF
  refine l_at hF rfl rfl rfl (x_extract (hF.tmp 8 rfl) rfl) ?_; clear hF; intro a hF
  refine l_at hF rfl rfl rfl (x_extract (hF.tmp 8 rfl) rfl) ?_; clear hF; intro a hF
  refine l_at hF rfl rfl rfl (x_assign (hF.tmp 12 rfl)) ?_; clear hF; intro a hF
  refine l_at hF rfl rfl rfl (x_assign (hF.tmp 13 rfl)) ?_; clear hF; intro a hF
  refine wpList_nil ?_
  refine hK3 _ _ ?_
  refine wp_seq_k fun khK4 hK4 => ?_
  refine wp_region_lit ?_
  refine l_at hF rfl rfl rfl (x_move (hF.tmp 7 rfl)) ?_; clear hF; intro a hF
  refine l_at hF rfl rfl rfl (x_not (hF.tmp 14 rfl)) ?_; clear hF; intro a hF
  refine wpList_nil ?_
  refine hK4 _ _ ?_
  refine wp_cond_split (hF.tmp 15 rfl) (fun hc15 => ?_) (fun hc15 => ?_)
  · have hk15_1 := hc15; try simp only [Bool.or_eq_true, Bool.and_eq_true, Bool.or_eq_false_iff, Bool.and_eq_false_iff, Bool.not_eq_true', Bool.not_eq_false', decide_eq_true_eq, decide_eq_false_iff_not, Bool.not_true, Bool.not_false] at hc15
    refine wp_seq_k fun khK5 hK5 => ?_
    refine wp_region_lit ?_
    refine l_at hF rfl rfl rfl (x_assign (show _ = Value.string (strOfNums ([] : List Int)) by kernel_rfl)) ?_; clear hF; intro a hF
    refine l_at hF rfl rfl rfl (x_assign rfl) ?_; clear hF; intro a hF
    refine wpList_nil ?_
    refine hK5 _ _ ?_
    refine wp_ret ?_
    try simp only [Exit.then, Exit.inBlock]
    have hg : al l key = none := by cases h : al l key with | none => rfl | some x => rw [h] at hc15; cases hc15
    exact fin_ret hF (res2 hF rfl rfl rfl) ⟨X, by rw [hg]; rfl, by rw [dropL_none hg]; exact hX, grew_lab hH 100 rfl (fun k h => .inr (.inl h))⟩
  · have hk15_2 := hc15; try simp only [Bool.or_eq_true, Bool.and_eq_true, Bool.or_eq_false_iff, Bool.and_eq_false_iff, Bool.not_eq_true', Bool.not_eq_false', decide_eq_true_eq, decide_eq_false_iff_not, Bool.not_true, Bool.not_false] at hc15
    obtain ⟨v, hg⟩ := Option.isSome_iff_exists.1 hc15
    obtain ⟨S, root, rfl, hw, hm, he⟩ := hX
    obtain ⟨p0, hp0, rfl, hb0⟩ := hw.root
    obtain ⟨r, hr, hrp, bv, hrv⟩ := (he.2 key v).1 (al_mem hg)
    have hSl : S.length ≤ 2 * l.length + 1 := by rw [hw.count hm he]; exact nodesL_le l
    have hdl := dropL_len he.1.keys hg
    have hH := hH.unbundle 100 rfl (N := []) (sub_nil _) rfl
    refine wp_skip ?_
    refine hK2 _ _ ?_
    refine wp_seq_k fun khK6 hK6 => ?_
    refine wp_region_lit ?_
    refine l_at hF rfl rfl rfl (x_move (hF.tmp 0 rfl)) ?_; clear hF; intro a hF
    refine l_at hF rfl rfl rfl (x_nil (hF.tmp 16 rfl)) ?_; clear hF; intro a hF
    refine l_at hF rfl rfl rfl (x_faddr Try.underlying58 rfl ty3 (by decide) (hF.tmp 17 rfl) rfl) ?_; clear hF; intro a hF
    refine l_at hF rfl rfl rfl (x_load1 ty3 (hF.tmp 18 rfl) (blk_cell (hH.at 1 rfl) 1 rfl)) ?_; clear hF; intro a hF
    refine l_at hF rfl rfl rfl (x_sub (hF.tmp 19 rfl) rfl (w64 (by omega) (by omega))) ?_; clear hF; intro a hF
    refine l_at hF rfl rfl rfl (x_nil (hF.tmp 16 rfl)) ?_; clear hF; intro a hF
    refine l_at hF rfl rfl rfl (x_faddr Try.underlying58 rfl ty3 (by decide) (hF.tmp 21 rfl) rfl) ?_; clear hF; intro a hF
    refine wpList_plain rfl fun K hK => ?_
    refine w_store 1 hH ty3 rfl (hF.tmp 22 rfl) (hF.tmp 20 rfl) rfl (one1 rfl rfl) (by first | decide | exact Nat.le_of_ble_eq_true rfl) ?_
    clear hH; intro w hH
    refine hK _ _ ?_; clear hK K
    refine wpList_nil ?_
    refine hK6 _ _ ?_
    refine wp_seq_k fun khK7 hK7 => ?_
    refine wp_region_lit ?_
    refine l_at hF rfl rfl rfl (x_move (hF.tmp 0 rfl)) ?_; clear hF; intro a hF
    refine l_at hF rfl rfl rfl (x_move (hF.tmp 0 rfl)) ?_; clear hF; intro a hF
    refine l_at hF rfl rfl rfl (x_nil (hF.tmp 24 rfl)) ?_; clear hF; intro a hF
    refine l_at hF rfl rfl rfl (x_faddr Try.underlying58 rfl ty56 (by decide) (hF.tmp 25 rfl) rfl) ?_; clear hF; intro a hF
    refine l_at hF rfl rfl rfl (x_load1 ty56 (hF.tmp 26 rfl) (blk_cell (hH.at 1 rfl) 0 rfl)) ?_; clear hF; intro a hF
    refine l_at hF rfl rfl rfl (x_move (hF.tmp 1 rfl)) ?_; clear hF; intro a hF
    have hH := hH.relab 1 (Y := .blk tb (.cells #[ptrV p0.nb, .int .i64 ((dropL l key).length : Int), .int .i64 (S.length : Int)] 58 (0, 0))) rfl (by rw [show ((dropL l key).length : Int) = (l.length : Int) - 1 from by omega] <;> rfl)
    have hH := hH.valRo 3 9 rfl hr hrv
    have hH := hH.bundle 100 (L := [(1, .blk tb (.cells #[ptrV p0.nb, .int .i64 ((dropL l key).length : Int), .int .i64 (S.length : Int)] 58 (0, 0))), (3, .arena 62 9 S)]) (N := [(9, .ro (.blk bv (.cells #[.string (strOfNums v)] 9 (0, 0))))]) (sub_cons (sub_cons (sub_nil _) 3 rfl) 1 rfl) (sub_cons (sub_nil _) 9 rfl) (apart_cons rfl (apart_cons rfl (apart_nil _)))
    refine wpList_plain rfl fun K hK => ?_
    refine w_call hF (x_enter Try.func31 (by kernel_rfl) rfl (by simp only [List.map_toArray, List.map_cons, List.map_nil, hF.tmp 23 rfl, hF.tmp 27 rfl, hF.tmp 28 rfl] <;> rfl)) (drop_calls (key.length + 1) _ tb p0.nb ((dropL l key).length : Int) S p0 r key bv v (by omega) (hH.okX 100 rfl) hw hm hp0 (by omega) hr (by rw [hb0]; exact hrp) hrv hkb (by have h9 := (hw.byte r hr).2.1; rw [hrp] at h9; exact h9)) rfl rfl ?_
    rintro _ w ⟨S4, rfl, hD, hg_⟩; refine ⟨_, rfl, ?_⟩; clear hF; intro a hF; rw [hb0, List.nil_append] at hD; have hH := hH.grew 100 rfl hg_ (fun k hk => hk.elim); have he9 := hD.ent l he
    refine hK _ _ ?_; clear hK K
    refine l_at hF rfl rfl rfl (x_nil (hF.tmp 29 rfl)) ?_; clear hF; intro a hF
    refine l_at hF rfl rfl rfl (x_load1 ty9 (hF.tmp 30 rfl) (blk_cell (hH.atro 9 rfl) 0 rfl)) ?_; clear hF; intro a hF
    refine l_at hF rfl rfl rfl (x_assign (hF.tmp 31 rfl)) ?_; clear hF; intro a hF
    refine l_at hF rfl rfl rfl (x_assign rfl) ?_; clear hF; intro a hF
    refine wpList_nil ?_
    refine hK7 _ _ ?_
    refine wp_ret ?_
    try simp only [Exit.then, Exit.inBlock]
    exact fin_ret hF (res2 hF rfl rfl rfl) ⟨_, by rw [hg]; rfl, ⟨_, _, rfl, hD.wf, (hb0 ▸ hD.min), he9⟩, grew_lab hH 100 rfl (rdin_cons (fun k h => h.elim) (rdin_cons (fun k ⟨r, hr, u, hu⟩ => (let ⟨r0, h1, h2⟩ := hD.vals r hr k u hu; .inr (.inl ⟨3, _, rfl, r0, h1, u, h2⟩))) rdin_nil))⟩

set_option maxRecDepth 100000 in
set_option maxHeartbeats 1000000 in
theorem drop1_nil (w0 : World) (key : List Int) : Calls Try.prog 16 #[.pointer none, .string (strOfNums key)] w0 fun e w' => e = .returned (.tuple #[.string (strOfNums []), .bool false]) ∧ Mods (fun _ => False) w0 w' := by
  refine calls_of_wp Try.func16 rfl ?_
  have hF := Fr.enter #[.pointer none, .string (strOfNums key)] 32 (slotsOf [.pointer none, .string (strOfNums key)] 0) (Nat.le_of_ble_eq_true rfl) (fun i v h => by have h2 := (get_slotsOf _ 0 i v h).2; simpa only [List.getElem?_toArray, Nat.sub_zero] using h2)
  have hH := Hp.nil (fun _ => False) w0
  rw [Try.ntmps16]
  revert hF; generalize (⟨(#[.pointer none, .string (strOfNums key)] : Array Value) ++ Array.replicate (32 - (#[.pointer none, .string (strOfNums key)] : Array Value).size) undef, []⟩ : Act) = a; intro hF
  refine wp_seq_k fun khK1 hK1 => ?_
  refine wp_region_lit ?_
  refine l_at hF rfl rfl rfl (x_assign (show _ = Value.string (strOfNums ([] : List Int)) by kernel_rfl)) ?_; clear hF; intro a hF
  refine l_at hF rfl rfl rfl (x_assign rfl) ?_; clear hF; intro a hF
  refine wpList_nil ?_
  refine hK1 _ _ ?_
  refine wp_seq_k fun khK2 hK2 => ?_
  refine wp_seq_k fun khK3 hK3 => ?_
  refine wp_region_lit ?_
  refine l_at hF rfl rfl rfl (x_move (hF.tmp 0 rfl)) ?_; clear hF; intro a hF
  refine l_at hF rfl rfl rfl (x_move (hF.tmp 1 rfl)) ?_; clear hF; intro a hF
  refine wpList_plain rfl fun K hK => ?_
  refine w_call hF (x_enter Try.func11 (by kernel_rfl) rfl (by simp only [List.map_toArray, List.map_cons, List.map_nil, hF.tmp 9 rfl, hF.tmp 10 rfl] <;> rfl)) (get_nil _ key) rfl rfl ?_
  rintro _ w ⟨rfl, hm_⟩; refine ⟨_, rfl, ?_⟩; clear hF; intro a hF; have hH := hH.same hm_
  refine hK _ _ ?_; clear hK K
  refine l_at hF rfl rfl rfl (x_move (hF.tmp 11 rfl)) ?_; clear hF; intro a hF
  refine l_at hF rfl rfl rfl (x_extract (hF.tmp 8 rfl) rfl) ?_; clear hF; intro a hF
  refine l_at hF rfl rfl rfl (x_extract (hF.tmp 8 rfl) rfl) ?_; clear hF; intro a hF
  refine l_at hF rfl rfl rfl (x_assign (hF.tmp 12 rfl)) ?_; clear hF; intro a hF
  refine l_at hF rfl rfl rfl (x_assign (hF.tmp 13 rfl)) ?_; clear hF; intro a hF
  refine wpList_nil ?_
  refine hK3 _ _ ?_
  refine wp_seq_k fun khK4 hK4 => ?_
  refine wp_region_lit ?_
  refine l_at hF rfl rfl rfl (x_move (hF.tmp 7 rfl)) ?_; clear hF; intro a hF
  refine l_at hF rfl rfl rfl (x_not (hF.tmp 14 rfl)) ?_; clear hF; intro a hF
  refine wpList_nil ?_
  refine hK4 _ _ ?_
  refine wp_cond_true (hF.tmp 15 rfl) ?_
  refine wp_seq_k fun khK5 hK5 => ?_
  refine wp_region_lit ?_
  refine l_at hF rfl rfl rfl (x_assign (show _ = Value.string (strOfNums ([] : List Int)) by kernel_rfl)) ?_; clear hF; intro a hF
  refine l_at hF rfl rfl rfl (x_assign rfl) ?_; clear hF; intro a hF
  refine wpList_nil ?_
  refine hK5 _ _ ?_
  refine wp_ret ?_
  try simp only [Exit.then, Exit.inBlock]
  exact fin_ret hF (res2 hF rfl rfl rfl) ⟨rfl, hH.mods⟩

set_option maxRecDepth 100000 in
set_option maxHeartbeats 1000000 in
theorem copied_calls : ∀ (n : Nat) (w0 : World) (S : List TRec) (base : List Int) (root : Nat) (p : TRec), 1000000 - p.path.length < n → (Asn.ro (.arena 62 9 S)).ok w0 → WF S base root → p ∈ S → Calls Try.prog 32 #[ptrV p.nb] w0 fun e w' => ∃ T t, e = .returned (ptrV t.nb) ∧ t ∈ T ∧ t.path = p.path ∧ WF T p.path t.nb ∧ (T.map sh).Perm ((underS S p.path).map sh) ∧ Mods (fun _ => False) w0 w' ∧ (Asn.arena 62 9 T).ok w' ∧ ∀ k, (Asn.arena 62 9 T).own k → w0.heap.size ≤ k := by
  intro n
  induction n with
  | zero => intros; omega
  | succ n ih =>
    intro w0 S base root p hn hok hw hp
    refine calls_of_wp Try.func32 rfl ?_
    have hF := Fr.enter #[ptrV p.nb] 35 (slotsOf [ptrV p.nb] 0) (Nat.le_of_ble_eq_true rfl) (fun i v h => by have h2 := (get_slotsOf _ 0 i v h).2; simpa only [List.getElem?_toArray, Nat.sub_zero] using h2)
    rw [Try.ntmps32]
    revert hF; generalize (⟨(#[ptrV p.nb] : Array Value) ++ Array.replicate (35 - (#[ptrV p.nb] : Array Value).size) undef, []⟩ : Act) = a; intro hF
    have hH := ro1 hok (fun k h => h)
    obtain ⟨bp, hbp, hH⟩ := hH.arRo 3 11 12 14 (by decide) rfl hp
    rw [ptrV_of hbp] at hF
    refine wp_seq_k fun khK1 hK1 => ?_
    refine wp_region_lit ?_
    refine l_at hF rfl rfl rfl (x_assign rfl) ?_; clear hF; intro a hF
    refine wpList_nil ?_
    refine hK1 _ _ ?_
    refine wp_seq_k fun khK2 hK2 => ?_
    refine r_start [(11, .ro (.blk bp (.cells #[.string (strOfNums p.lab), .pointer (valA p.val), .map (some p.mb)] 62 (0, 0))))] (by kernel_rfl) hH fun hH => ?_
    have hS : SL [(11, .ro (.blk bp (.cells #[.string (strOfNums p.lab), .pointer (valA p.val), .map (some p.mb)] 62 (0, 0))))] _ := SL.of hH (sub_cons (sub_nil _) 11 rfl)
    refine r_take 0 hF rfl rfl rfl (by kernel_rfl) (by kernel_rfl) (by kernel_rfl) (fun _ _ _ h => h) rfl hS (fun w hS => x_move (hF.tmp 0 rfl)) rfl ?_; clear hF; intro a hF
    refine r_take 1 hF rfl rfl rfl (by kernel_rfl) (by kernel_rfl) (by kernel_rfl) (fun _ _ _ h => h) rfl hS (fun w hS => x_nil (hF.tmp 6 rfl)) rfl ?_; clear hF; intro a hF
    refine r_take 2 hF rfl rfl rfl (by kernel_rfl) (by kernel_rfl) (by kernel_rfl) (fun _ _ _ h => h) rfl hS (fun w hS => x_faddr Try.underlying62 rfl ty9 (by decide) (hF.tmp 7 rfl) rfl) rfl ?_; clear hF; intro a hF
    refine r_take 3 hF rfl rfl rfl (by kernel_rfl) (by kernel_rfl) (by kernel_rfl) (fun _ _ _ h => h) rfl hS (fun w hS => x_load1 ty9 (hF.tmp 8 rfl) (blk_cell (SL.atro hS 11 rfl) 0 rfl)) rfl ?_; clear hF; intro a hF
    refine r_take 4 hF rfl rfl rfl (by kernel_rfl) (by kernel_rfl) (by kernel_rfl) (fun _ _ _ h => h) rfl hS (fun w hS => x_move (hF.tmp 0 rfl)) rfl ?_; clear hF; intro a hF
    refine r_take 5 hF rfl rfl rfl (by kernel_rfl) (by kernel_rfl) (by kernel_rfl) (fun _ _ _ h => h) rfl hS (fun w hS => x_nil (hF.tmp 10 rfl)) rfl ?_; clear hF; intro a hF
    refine r_take 6 hF rfl rfl rfl (by kernel_rfl) (by kernel_rfl) (by kernel_rfl) (fun _ _ _ h => h) rfl hS (fun w hS => x_faddr Try.underlying62 rfl ty59 (by decide) (hF.tmp 11 rfl) rfl) rfl ?_; clear hF; intro a hF
    refine r_take 7 hF rfl rfl rfl (by kernel_rfl) (by kernel_rfl) (by kernel_rfl) (fun _ _ _ h => h) rfl hS (fun w hS => x_load1 ty59 (hF.tmp 12 rfl) (blk_cell (SL.atro hS 11 rfl) 1 rfl)) rfl ?_; clear hF; intro a hF
    refine r_do 8 rfl (by kernel_rfl) rfl rfl ?_
    refine w_makeMap KB NV 42 hF hH rfl ?_
    clear hF hH; intro a w b14 hF hH
    clear hS; have hS : SL _ _ := SL.of hH (sub_cons (sub_nil _) 11 rfl); refine ⟨hS, ?_⟩
    refine r_take 9 hF rfl rfl rfl (by kernel_rfl) (by kernel_rfl) (by kernel_rfl) (fun _ _ _ h => h) rfl hS (fun w hS => x_buildS (cells := #[.string (strOfNums p.lab), .pointer (valA p.val), .map (some b14)]) (places := #[(0, 1), (1, 1), (2, 1)]) Try.underlying62 ty62 (by kernel_rfl) (by simp only [List.map_toArray, List.map_cons, List.map_nil, hF.tmp 9 rfl, hF.tmp 13 rfl, hF.tmp 14 rfl] <;> rfl) rfl) rfl ?_; clear hF; intro a hF
    refine r_do 10 rfl (by kernel_rfl) rfl rfl ?_
    refine w_box 41 hF hH rfl (hF.tmp 15 rfl) ?_
    clear hF hH; intro a w b16 hF hH
    clear hS; have hS : SL _ _ := SL.of hH (sub_cons (sub_nil _) 11 rfl); refine ⟨hS, ?_⟩
    refine r_take 11 hF rfl rfl rfl (by kernel_rfl) (by kernel_rfl) (by kernel_rfl) (fun _ _ _ h => h) rfl hS (fun w hS => x_assign (hF.tmp 16 rfl)) rfl ?_; clear hF; intro a hF
    refine r_end (by kernel_rfl) ?_; clear hS
    refine hK2 _ _ ?_
    refine wp_seq_k fun khK3 hK3 => ?_
    refine wp_seq_k fun khK4 hK4 => ?_
    refine wp_region_lit ?_
    have hH := hH.arNil 5 62 9
    have hH := hH.arClose (r := (⟨p.path, b16 + 1, b14, p.lab, p.val, []⟩ : TRec)) 5 41 42 14 (by decide) rfl rfl rfl rfl rfl
    refine l_at hF rfl rfl rfl (x_move (hF.tmp 0 rfl)) ?_; clear hF; intro a hF
    refine l_at hF rfl rfl rfl (x_nil (hF.tmp 17 rfl)) ?_; clear hF; intro a hF
    refine l_at hF rfl rfl rfl (x_faddr Try.underlying62 rfl ty60 (by decide) (hF.tmp 18 rfl) rfl) ?_; clear hF; intro a hF
    refine l_at hF rfl rfl rfl (x_load1 ty60 (hF.tmp 19 rfl) (blk_cell (hH.atro 11 rfl) 2 rfl)) ?_; clear hF; intro a hF
    refine wpList_plain rfl fun K hK => ?_
    refine w_range 25 12 hF hH rfl rfl Try.underlying60 (hF.tmp 20 rfl) ?_
    clear hF hH; intro a w it21 hF hH
    refine hK _ _ ?_; clear hK K
    refine wpList_nil ?_
    refine hK4 _ _ ?_
    refine wp_block ?_
    refine wp_loop_ghost (fun n_ a w => ∃ rest : List (Int × Nat), ∃ done : List (Int × Nat), ∃ o : TRec, ∃ T : List TRec, ∃ cur_ : Option ((Int × Nat) × Value), n_ = rest.length ∧ ((done ++ rest).Perm p.kids) ∧ (CopyI S p o T done) ∧ (o.nb = b16 + 1) ∧ Fr 35 a [(3, .pointer (some ⟨b16, 0, none⟩)), (21, .pointer (some ⟨it21, 0, none⟩))] ∧ Hp (fun _ => False) w0 w [(3, .ro (.arena 62 9 S)), (11, .ro (.blk bp (.cells #[.string (strOfNums p.lab), .pointer (valA p.val), .map (some p.mb)] 62 (0, 0)))), (12, .ro (.map KB NV p.mb p.kids noB)), (14, vro 9 p.val), (5, .arena 62 9 (o :: T)), (25, .iter KB NV p.mb it21 p.kids rest cur_ (fun k => noB k ∧ k ≠ p.mb))]) (p.kids.length) ?_ ?_
    · exact ⟨p.kids, [], (⟨p.path, b16 + 1, b14, p.lab, p.val, []⟩ : TRec), [], none, rfl, (List.Perm.refl _), (CopyI.start hw hp), rfl, ((hF.bare.add hF 21 rfl).add hF 3 rfl), hH.sub _ (sub_cons (sub_cons (sub_cons (sub_cons (sub_cons (sub_cons (sub_nil _) 25 rfl) 5 rfl) 14 rfl) 12 rfl) 11 rfl) 3 rfl)⟩
    · rintro _ a w ⟨rest, done, o, T, cur_, rfl, hq0_0, hq0_1, hq0_2, hF, hH⟩
      refine wp_seq_k fun khK5 hK5 => ?_
      refine wp_region_lit ?_
      refine wpList_plain rfl fun K hK => ?_
      refine w_next 25 hF hH rfl rfl (hF.tmp 21 rfl) (fun a hr0 hF hH => hK _ _ ?_) (fun a w r1 p22 r2 v22 hr1 hF hH => hK _ _ ?_) <;> clear hK K
      ·
        refine l_at hF rfl rfl rfl (x_extract (hF.tmp 22 rfl) rfl) ?_; clear hF; intro a hF
        refine wpList_nil ?_
        refine hK5 _ _ ?_
        refine wp_seq_k fun khK6 hK6 => ?_
        refine wp_cond_false (hF.tmp 23 rfl) ?_
        refine wp_exit ?_
        refine hK3 _ _ ?_
        refine wp_seq_k fun khK7 hK7 => ?_
        refine wp_region_lit ?_
        refine l_at hF rfl rfl rfl (x_move (hF.tmp 3 rfl)) ?_; clear hF; intro a hF
        refine l_at hF rfl rfl rfl (x_assign (hF.tmp 34 rfl)) ?_; clear hF; intro a hF
        refine wpList_nil ?_
        refine hK7 _ _ ?_
        refine wp_ret ?_
        try simp only [Exit.then, Exit.inBlock]
        rw [hr0, List.append_nil] at hq0_0
        have hh : Hp (fun _ => False) w0 w [(5, .arena 62 9 (o :: T))] := hH.sub _ (sub_cons (sub_nil _) 5 rfl)
        have hA9 := hH.okX 5 rfl
        exact fin_ret hF (res1 hF rfl rfl) ⟨o :: T, o, by rw [hq0_2]; rfl, List.mem_cons_self .., hq0_1.path, hq0_1.wf, hq0_1.done hw hp hq0_0, hH.mods, hA9, fun k hk => (hH.mine 5 _ rfl k hk).resolve_left id⟩
      ·
        obtain rfl : v22 = ptrV p22.2 := hH.curR 25 rfl
        have hmem : p22 ∈ p.kids := hq0_0.mem_iff.1 (by rw [hr1]; simp)
        have hc22 := al_of_mem (hw.keys p hp) (k := p22.1) (x := p22.2) hmem
        obtain ⟨q, hq, hqn, hqp, hqh⟩ := hw.kid p hp p22.1 p22.2 hc22
        rw [← hqn] at hc22
        have hql := kid_len hw hp hq hc22
        have hqb := hw.byte q hq
        have hnot : p22.1 ∉ done.map (·.1) := copy_new (hw.keys p hp) (hr1 ▸ hq0_0)
        rw [← hqn] at hF
        rw [← hqn] at hH
        refine l_at hF rfl rfl rfl (x_extract (hF.tmp 22 rfl) rfl) ?_; clear hF; intro a hF
        refine wpList_nil ?_
        refine hK5 _ _ ?_
        refine wp_seq_k fun khK8 hK8 => ?_
        refine wp_cond_true (hF.tmp 23 rfl) ?_
        refine wp_skip ?_
        refine hK8 _ _ ?_
        refine wp_block ?_
        refine wp_seq_k fun khK9 hK9 => ?_
        refine wp_region_lit ?_
        refine l_at hF rfl rfl rfl (x_entry 25 hH rfl (hF.tmp 21 rfl)) ?_; clear hF; intro a hF
        refine l_at hF rfl rfl rfl (x_extract (hF.tmp 24 rfl) rfl) ?_; clear hF; intro a hF
        refine l_at hF rfl rfl rfl (x_extract (hF.tmp 24 rfl) rfl) ?_; clear hF; intro a hF
        refine l_at hF rfl rfl rfl (x_assign (hF.tmp 25 rfl)) ?_; clear hF; intro a hF
        refine l_at hF rfl rfl rfl (x_assign (hF.tmp 26 rfl)) ?_; clear hF; intro a hF
        have hok1 := hq0_1.wf.byte o (List.mem_cons_self ..)
        obtain ⟨b16', hb16, hH⟩ := hH.arOpen 5 41 42 44 (by decide) rfl
        rw [show b16' = b16 from by omega] at hH
        refine wpList_nil ?_
        refine hK9 _ _ ?_
        refine r_start [(41, .blk b16 (.cells #[.string (strOfNums o.lab), .pointer (valA o.val), .map (some o.mb)] 62 (0, 0)))] (by kernel_rfl) hH fun hH => ?_
        have hS : SL [(41, .blk b16 (.cells #[.string (strOfNums o.lab), .pointer (valA o.val), .map (some o.mb)] 62 (0, 0)))] _ := SL.of hH (sub_cons (sub_nil _) 41 rfl)
        refine r_take 0 hF rfl rfl rfl (by kernel_rfl) (by kernel_rfl) (by kernel_rfl) (fun _ _ _ h => h) rfl hS (fun w hS => x_move (hF.tmp 3 rfl)) rfl ?_; clear hF; intro a hF
        refine r_take 1 hF rfl rfl rfl (by kernel_rfl) (by kernel_rfl) (by kernel_rfl) (fun _ _ _ h => h) rfl hS (fun w hS => x_nil (hF.tmp 27 rfl)) rfl ?_; clear hF; intro a hF
        refine r_take 2 hF rfl rfl rfl (by kernel_rfl) (by kernel_rfl) (by kernel_rfl) (fun _ _ _ h => h) rfl hS (fun w hS => x_faddr Try.underlying62 rfl ty60 (by decide) (hF.tmp 28 rfl) rfl) rfl ?_; clear hF; intro a hF
        refine r_take 3 hF rfl rfl rfl (by kernel_rfl) (by kernel_rfl) (by kernel_rfl) (fun _ _ _ h => h) rfl hS (fun w hS => x_load1 ty60 (hF.tmp 29 rfl) (blk_cell (SL.at_ hS 41 rfl) 2 rfl)) rfl ?_; clear hF; intro a hF
        refine r_take 4 hF rfl rfl rfl (by kernel_rfl) (by kernel_rfl) (by kernel_rfl) (fun _ _ _ h => h) rfl hS (fun w hS => x_move (hF.tmp 4 rfl)) rfl ?_; clear hF; intro a hF
        refine r_take 5 hF rfl rfl rfl (by kernel_rfl) (by kernel_rfl) (by kernel_rfl) (fun _ _ _ h => h) rfl hS (fun w hS => x_move (hF.tmp 5 rfl)) rfl ?_; clear hF; intro a hF
        refine r_do 6 rfl (by kernel_rfl) rfl rfl ?_
        refine w_call hF (x_enter Try.func32 (by kernel_rfl) rfl (by simp only [List.map_toArray, List.map_cons, List.map_nil, hF.tmp 32 rfl] <;> rfl)) (ih _ S base root q (by omega) (hH.okX 3 rfl) hw hq) rfl rfl ?_
        rintro _ w ⟨T2, t, rfl, ht, htp, hT, hs_, hm_, hok2, hn2⟩; refine ⟨_, rfl, ?_⟩; clear hF; intro a hF; have hH := hH.arNew 6 3 rfl hm_ hok2 hn2 (fun r hr k v hv => let ⟨r0, h1, h2⟩ := sh_val hs_ r hr k v hv; ⟨r0, (mem_underS.1 h1).1, h2⟩)
        clear hS; have hS : SL _ _ := SL.of hH (sub_cons (sub_nil _) 41 rfl); refine ⟨hS, ?_⟩
        refine r_do 7 rfl (by kernel_rfl) rfl rfl ?_
        refine w_mapSet 42 (k := p22.1) (yv := t.nb) noB hH rfl Try.underlying60 Try.underlying5 (hF.tmp 30 rfl) (hF.tmp 31 rfl) (hF.tmp 33 rfl) rfl (fun k hk => hk) (fun k hk => .inl hk) ?_
        clear hH; intro w hH
        clear hS; have hS : SL _ _ := SL.of hH (sub_cons (sub_nil _) 41 rfl); refine ⟨hS, ?_⟩
        refine r_end (by kernel_rfl) ?_; clear hS
        have hd : ∀ r ∈ o :: T, ∀ s ∈ T2, r.nb ≠ s.nb := by intro r hr s hs; rcases List.mem_cons.1 hr with rfl | hr; (· rw [hq0_2]; exact fun e => hH.arFresh 6 41 (by decide) rfl rfl (e ▸ List.mem_map_of_mem (f := (·.nb)) hs)); (· exact hH.arApart 5 6 (by decide) rfl rfl r hr s hs)
        have hH := hH.arJoin 5 6 (by decide) rfl rfl
        have hH := hH.arClose (r := ({ o with kids := mput o.kids p22.1 t.nb } : TRec)) 5 41 42 44 (by decide) hq0_2 rfl rfl rfl rfl
        have hstep := hq0_1.step hw hp hq hc22 hnot ht htp hT hs_ hd
        exact ⟨_, (by rw [hr1]; simp only [List.length_append, List.length_cons]; omega), ⟨r1 ++ r2, done ++ [p22], ({ o with kids := mput o.kids p22.1 t.nb } : TRec), T ++ T2, _, rfl, (copy_perm (hr1 ▸ hq0_0)), hstep, hq0_2, ((hF.bare.add hF 21 rfl).add hF 3 rfl), hH.sub _ (sub_cons (sub_cons (sub_cons (sub_cons (sub_cons (sub_cons (sub_nil _) 25 rfl) 5 rfl) 14 rfl) 12 rfl) 11 rfl) 3 rfl)⟩⟩

set_option maxRecDepth 100000 in
set_option maxHeartbeats 1000000 in
theorem copy_calls (w0 : World) {X : Asn} {tb : Nat} {l : List Ent} (hX : TrieA 58 62 9 tb l X) (hok : X.ok w0) : Calls Try.prog 24 #[.pointer (some ⟨tb, 0, none⟩)] w0 fun e w' => ∃ tb' Y, e = .returned (.pointer (some ⟨tb', 0, none⟩)) ∧ TrieA 58 62 9 tb' l Y ∧ Mods (fun _ => False) w0 w' ∧ Y.ok w' ∧ (∀ k, Y.own k → w0.heap.size ≤ k) ∧ ∀ k, Y.rd k → X.rd k := by
  obtain ⟨S, root, rfl, hw, hm, he⟩ := hX
  obtain ⟨p0, hp0, rfl, hb0⟩ := hw.root
  refine calls_of_wp Try.func24 rfl ?_
  have hF := Fr.enter #[.pointer (some ⟨tb, 0, none⟩)] 20 (slotsOf [.pointer (some ⟨tb, 0, none⟩)] 0) (Nat.le_of_ble_eq_true rfl) (fun i v h => by have h2 := (get_slotsOf _ 0 i v h).2; simpa only [List.getElem?_toArray, Nat.sub_zero] using h2)
  rw [Try.ntmps24]
  revert hF; generalize (⟨(#[.pointer (some ⟨tb, 0, none⟩)] : Array Value) ++ Array.replicate (20 - (#[.pointer (some ⟨tb, 0, none⟩)] : Array Value).size) undef, []⟩ : Act) = a; intro hF
  have hH := ro2 hok.holds
  have hpos := hH.arPosR 3 rfl
  refine wp_seq_k fun khK1 hK1 => ?_
  refine wp_region_lit ?_
  refine l_at hF rfl rfl rfl (x_assign rfl) ?_; clear hF; intro a hF
  refine wpList_nil ?_
  refine hK1 _ _ ?_
  refine wp_seq_k fun khK2 hK2 => ?_
  refine wp_seq_k fun khK3 hK3 => ?_
  refine wp_region_lit ?_
  refine l_at hF rfl rfl rfl (x_move (hF.tmp 0 rfl)) ?_; clear hF; intro a hF
  refine l_at hF rfl rfl rfl (x_ptrnil Try.underlying23 (hF.tmp 3 rfl) rfl) ?_; clear hF; intro a hF
  refine wpList_nil ?_
  refine hK3 _ _ ?_
  refine wp_cond_false (hF.tmp 4 rfl) ?_
  refine wp_skip ?_
  refine hK2 _ _ ?_
  refine wp_seq_k fun khK4 hK4 => ?_
  refine r_start [(1, .ro (.blk tb (.cells #[ptrV p0.nb, .int .i64 (l.length : Int), .int .i64 (S.length : Int)] 58 (0, 0))))] (by kernel_rfl) hH fun hH => ?_
  have hS : SL [(1, .ro (.blk tb (.cells #[ptrV p0.nb, .int .i64 (l.length : Int), .int .i64 (S.length : Int)] 58 (0, 0))))] _ := SL.of hH (sub_cons (sub_nil _) 1 rfl)
  refine r_take 0 hF rfl rfl rfl (by kernel_rfl) (by kernel_rfl) (by kernel_rfl) (fun _ _ _ h => h) rfl hS (fun w hS => x_move (hF.tmp 0 rfl)) rfl ?_; clear hF; intro a hF
  refine r_take 1 hF rfl rfl rfl (by kernel_rfl) (by kernel_rfl) (by kernel_rfl) (fun _ _ _ h => h) rfl hS (fun w hS => x_nil (hF.tmp 5 rfl)) rfl ?_; clear hF; intro a hF
  refine r_take 2 hF rfl rfl rfl (by kernel_rfl) (by kernel_rfl) (by kernel_rfl) (fun _ _ _ h => h) rfl hS (fun w hS => x_faddr Try.underlying58 rfl ty56 (by decide) (hF.tmp 6 rfl) rfl) rfl ?_; clear hF; intro a hF
  refine r_take 3 hF rfl rfl rfl (by kernel_rfl) (by kernel_rfl) (by kernel_rfl) (fun _ _ _ h => h) rfl hS (fun w hS => x_load1 ty56 (hF.tmp 7 rfl) (blk_cell (SL.atro hS 1 rfl) 0 rfl)) rfl ?_; clear hF; intro a hF
  refine r_take 5 hF rfl rfl rfl (by kernel_rfl) (by kernel_rfl) (by kernel_rfl) (fun _ _ _ h => h) rfl hS (fun w hS => x_move (hF.tmp 0 rfl)) rfl ?_; clear hF; intro a hF
  refine r_take 6 hF rfl rfl rfl (by kernel_rfl) (by kernel_rfl) (by kernel_rfl) (fun _ _ _ h => h) rfl hS (fun w hS => x_nil (hF.tmp 10 rfl)) rfl ?_; clear hF; intro a hF
  refine r_take 7 hF rfl rfl rfl (by kernel_rfl) (by kernel_rfl) (by kernel_rfl) (fun _ _ _ h => h) rfl hS (fun w hS => x_faddr Try.underlying58 rfl ty3 (by decide) (hF.tmp 11 rfl) rfl) rfl ?_; clear hF; intro a hF
  refine r_take 8 hF rfl rfl rfl (by kernel_rfl) (by kernel_rfl) (by kernel_rfl) (fun _ _ _ h => h) rfl hS (fun w hS => x_load1 ty3 (hF.tmp 12 rfl) (blk_cell (SL.atro hS 1 rfl) 1 rfl)) rfl ?_; clear hF; intro a hF
  refine r_take 9 hF rfl rfl rfl (by kernel_rfl) (by kernel_rfl) (by kernel_rfl) (fun _ _ _ h => h) rfl hS (fun w hS => x_move (hF.tmp 0 rfl)) rfl ?_; clear hF; intro a hF
  refine r_take 10 hF rfl rfl rfl (by kernel_rfl) (by kernel_rfl) (by kernel_rfl) (fun _ _ _ h => h) rfl hS (fun w hS => x_nil (hF.tmp 14 rfl)) rfl ?_; clear hF; intro a hF
  refine r_take 11 hF rfl rfl rfl (by kernel_rfl) (by kernel_rfl) (by kernel_rfl) (fun _ _ _ h => h) rfl hS (fun w hS => x_faddr Try.underlying58 rfl ty3 (by decide) (hF.tmp 15 rfl) rfl) rfl ?_; clear hF; intro a hF
  refine r_take 12 hF rfl rfl rfl (by kernel_rfl) (by kernel_rfl) (by kernel_rfl) (fun _ _ _ h => h) rfl hS (fun w hS => x_load1 ty3 (hF.tmp 16 rfl) (blk_cell (SL.atro hS 1 rfl) 2 rfl)) rfl ?_; clear hF; intro a hF
  refine r_do 4 rfl (by kernel_rfl) rfl rfl ?_
  refine w_call hF (x_enter Try.func32 (by kernel_rfl) rfl (by simp only [List.map_toArray, List.map_cons, List.map_nil, hF.tmp 8 rfl] <;> rfl)) (copied_calls 1000001 _ S [] p0.nb p0 (by omega) (hH.okX 3 rfl) hw hp0) rfl rfl ?_
  rintro _ w ⟨T, t, rfl, ht, htp, hT, hs_, hm_, hok2, hn2⟩; refine ⟨_, rfl, ?_⟩; clear hF; intro a hF; rw [hb0, underS_nil] at hs_; rw [hb0] at hT; have hH := hH.arNew 3 3 rfl hm_ hok2 hn2 (sh_val hs_)
  clear hS; have hS : SL _ _ := SL.of hH (sub_cons (sub_nil _) 1 rfl); refine ⟨hS, ?_⟩
  refine r_take 13 hF rfl rfl rfl (by kernel_rfl) (by kernel_rfl) (by kernel_rfl) (fun _ _ _ h => h) rfl hS (fun w hS => x_buildS (cells := #[ptrV t.nb, .int .i64 (l.length : Int), .int .i64 (S.length : Int)]) (places := #[(0, 1), (1, 1), (2, 1)]) Try.underlying58 ty58 (by kernel_rfl) (by simp only [List.map_toArray, List.map_cons, List.map_nil, hF.tmp 9 rfl, hF.tmp 13 rfl, hF.tmp 17 rfl] <;> rfl) rfl) rfl ?_; clear hF; intro a hF
  refine r_do 14 rfl (by kernel_rfl) rfl rfl ?_
  refine w_box 21 hF hH rfl (hF.tmp 18 rfl) ?_
  clear hF hH; intro a w b19 hF hH
  clear hS; have hS : SL _ _ := SL.of hH (sub_cons (sub_nil _) 1 rfl); refine ⟨hS, ?_⟩
  refine r_take 15 hF rfl rfl rfl (by kernel_rfl) (by kernel_rfl) (by kernel_rfl) (fun _ _ _ h => h) rfl hS (fun w hS => x_assign (hF.tmp 19 rfl)) rfl ?_; clear hF; intro a hF
  refine r_end (by kernel_rfl) ?_; clear hS
  refine hK4 _ _ ?_
  refine wp_ret ?_
  try simp only [Exit.then, Exit.inBlock]
  have hTl : T.length = S.length := by have h1 := hs_.length_eq; rwa [List.length_map, List.length_map] at h1
  have hH := hH.relab 21 (Y := .blk b19 (.cells #[ptrV t.nb, .int .i64 (l.length : Int), .int .i64 (T.length : Int)] 58 (0, 0))) rfl (by rw [hTl] <;> rfl)
  have hh : Hp (fun _ => False) w0 w [(1, .blk b19 (.cells #[ptrV t.nb, .int .i64 (l.length : Int), .int .i64 (T.length : Int)] 58 (0, 0))), (3, .arena 62 9 T)] := hH.as1 21 (by decide) rfl rfl
  exact fin_ret hF (res1 hF rfl rfl) ⟨b19, _, rfl, ⟨_, _, rfl, hT, sh_min hs_ hm, sh_ent hs_ he⟩, hH.mods, hh.okAll, fun k ⟨i, A_, hA, hk⟩ => (hh.mine i A_ hA k hk).resolve_left id, rdin_cons (fun k h => h.elim) (rdin_cons (fun k ⟨r, hr, v, hv⟩ => let ⟨r0, h1, h2⟩ := sh_val hs_ r hr k v hv; ⟨3, _, rfl, r0, h1, v, h2⟩) rdin_nil)⟩

set_option maxRecDepth 100000 in
set_option maxHeartbeats 1000000 in
theorem copy_nil (w0 : World) : Calls Try.prog 24 #[.pointer none] w0 fun e w' => e = .returned (.pointer none) ∧ Mods (fun _ => False) w0 w' := by
  refine calls_of_wp Try.func24 rfl ?_
  have hF := Fr.enter #[.pointer none] 20 (slotsOf [.pointer none] 0) (Nat.le_of_ble_eq_true rfl) (fun i v h => by have h2 := (get_slotsOf _ 0 i v h).2; simpa only [List.getElem?_toArray, Nat.sub_zero] using h2)
  have hH := Hp.nil (fun _ => False) w0
  rw [Try.ntmps24]
  revert hF; generalize (⟨(#[.pointer none] : Array Value) ++ Array.replicate (20 - (#[.pointer none] : Array Value).size) undef, []⟩ : Act) = a; intro hF
  refine wp_seq_k fun khK1 hK1 => ?_
  refine wp_region_lit ?_
  refine l_at hF rfl rfl rfl (x_assign rfl) ?_; clear hF; intro a hF
  refine wpList_nil ?_
  refine hK1 _ _ ?_
  refine wp_seq_k fun khK2 hK2 => ?_
  refine wp_seq_k fun khK3 hK3 => ?_
  refine wp_region_lit ?_
  refine l_at hF rfl rfl rfl (x_move (hF.tmp 0 rfl)) ?_; clear hF; intro a hF
  refine l_at hF rfl rfl rfl (x_ptrnil Try.underlying23 (hF.tmp 3 rfl) rfl) ?_; clear hF; intro a hF
  refine wpList_nil ?_
  refine hK3 _ _ ?_
  refine wp_cond_true (hF.tmp 4 rfl) ?_
  refine wp_seq_k fun khK4 hK4 => ?_
  refine wp_region_lit ?_
  refine l_at hF rfl rfl rfl (x_assign rfl) ?_; clear hF; intro a hF
  refine wpList_nil ?_
  refine hK4 _ _ ?_
  refine wp_ret ?_
  try simp only [Exit.then, Exit.inBlock]
  exact fin_ret hF (res1 hF rfl rfl) ⟨rfl, hH.mods⟩

end Go.Proofs.Ytlcnoibjhmflnaa.Act
