/- The trie's iterator, walked. -/
import Derived.Test.YtlcnoibjhmflnaaTriB
import Derived.Test.YtlcnoibjhmflnaaTriS
import Derived.Test.YtlcnoibjhmflnaaEch
set_option linter.unusedVariables false
set_option linter.unusedSimpArgs false
namespace Go.Proofs.Ytlcnoibjhmflnaa.Act
open Go.RowKit Go.Proofs.Ytlcnoibjhmflnaa.Sx Go.Sort Go.Proofs.Ytlcnoibjhmflnaa.Cod
theorem ty71 : TyI Try.prog 71 (.nilFunc) 1 8 false := ⟨by kernel_rfl, _, Try.underlying71, rfl⟩
set_option maxRecDepth 100000 in
set_option maxHeartbeats 1000000 in
theorem each_calls (w0 : World) (nb : Nat) (key : List Int) : Calls Try.prog 29 #[ptrV nb, .string (strOfNums key)] w0 fun e w' => ∃ bn bk, e = .returned (.func (.func 35) #[] #[.pointer (some ⟨bn, 0, none⟩), .pointer (some ⟨bk, 0, none⟩)]) ∧ Hp (fun _ => False) w0 w' [(51, .blk bn (.cells #[ptrV nb] 56 (0, 0))), (52, .blk bk (.cells #[.string (strOfNums key)] 9 (0, 0)))] := by
  refine calls_of_wp Try.func29 rfl ?_
  have hF := Fr.enter #[ptrV nb, .string (strOfNums key)] 6 (slotsOf [ptrV nb, .string (strOfNums key)] 0) (Nat.le_of_ble_eq_true rfl) (fun i v h => by have h2 := (get_slotsOf _ 0 i v h).2; simpa only [List.getElem?_toArray, Nat.sub_zero] using h2)
  have hH := Hp.nil (fun _ => False) w0
  rw [Try.ntmps29]
  revert hF; generalize (⟨(#[ptrV nb, .string (strOfNums key)] : Array Value) ++ Array.replicate (6 - (#[ptrV nb, .string (strOfNums key)] : Array Value).size) undef, []⟩ : Act) = a; intro hF
  refine wp_seq_k fun khK1 hK1 => ?_
  refine wp_region_lit ?_
  refine wpList_plain rfl fun K hK => ?_
  refine w_box 51 hF hH rfl (hF.tmp 0 rfl) ?_
  clear hF hH; intro a w b2 hF hH
  refine hK _ _ ?_; clear hK K
  refine wpList_plain rfl fun K hK => ?_
  refine w_box 52 hF hH rfl (hF.tmp 1 rfl) ?_
  clear hF hH; intro a w b3 hF hH
  refine hK _ _ ?_; clear hK K
  refine l_at hF rfl rfl rfl (x_assign rfl) ?_; clear hF; intro a hF
  refine wpList_nil ?_
  refine hK1 _ _ ?_
  refine wp_seq_k fun khK2 hK2 => ?_
  refine wp_region_lit ?_
  refine l_at hF rfl rfl rfl (x_mkfunc (vs := #[.pointer (some ⟨b2, 0, none⟩), .pointer (some ⟨b3, 0, none⟩)]) (by simp only [List.map_toArray, List.map_cons, List.map_nil, hF.tmp 2 rfl, hF.tmp 3 rfl] <;> rfl)) ?_; clear hF; intro a hF
  refine l_at hF rfl rfl rfl (x_assign (hF.tmp 5 rfl)) ?_; clear hF; intro a hF
  refine wpList_nil ?_
  refine hK2 _ _ ?_
  refine wp_ret ?_
  try simp only [Exit.then, Exit.inBlock]
  exact fin_ret hF (res1 hF rfl rfl) ⟨b2, b3, rfl, hH.sub _ (sub_cons (sub_cons (sub_nil _) 52 rfl) 51 rfl)⟩

set_option maxRecDepth 100000 in
set_option maxHeartbeats 4000000 in
theorem each_tells {S : List TRec} {base : List Int} {root : Nat} {l : List Ent} (hw : WF S base root) (he : EntOf S l) (hkm : ∀ p ∈ S, p.kids.length ≤ kmax) : ∀ (n : Nat) (w0 : World) (p : TRec) (bn bk : Nat), (Asn.all [(1, .ro (.blk bn (.cells #[ptrV p.nb] 56 (0, 0)))), (2, .ro (.blk bk (.cells #[.string (strOfNums p.path)] 9 (0, 0)))), (3, .ro (.arena 62 9 S))]).holds w0 → p ∈ S → 1000000 - p.path.length < n → Iterates Try.prog 35 #[.pointer (some ⟨bn, 0, none⟩), .pointer (some ⟨bk, 0, none⟩)] EncE [(1, .ro (.blk bn (.cells #[ptrV p.nb] 56 (0, 0)))), (2, .ro (.blk bk (.cells #[.string (strOfNums p.path)] 9 (0, 0)))), (3, .ro (.arena 62 9 S))] (fun _ => False) (fun xs => xs = underL l p.path) w0 := by
  intro n
  induction n with
  | zero => intros; omega
  | succ n ih =>
    intro w0 p bn bk hLI hp hn
    intro l_ JP DN X hX h1 h2 hR0 hJ0
    rw [show (#[.func (.yield l_) #[] #[]] ++ #[.pointer (some ⟨bn, 0, none⟩), .pointer (some ⟨bk, 0, none⟩)] : Array Value) = #[.func (.yield l_) #[] #[], .pointer (some ⟨bn, 0, none⟩), .pointer (some ⟨bk, 0, none⟩)] from rfl]
    refine calls_marksN Try.func35 rfl ?_
    have hF := Fr.enter #[.func (.yield l_) #[] #[], .pointer (some ⟨bn, 0, none⟩), .pointer (some ⟨bk, 0, none⟩)] 60 (slotsOf [.func (.yield l_) #[] #[], .pointer (some ⟨bn, 0, none⟩), .pointer (some ⟨bk, 0, none⟩)] 0) (Nat.le_of_ble_eq_true rfl) (fun i v h => by have h2 := (get_slotsOf _ 0 i v h).2; simpa only [List.getElem?_toArray, Nat.sub_zero] using h2)
    rw [Try.ntmps35]
    revert hF; generalize (⟨(#[.func (.yield l_) #[] #[], .pointer (some ⟨bn, 0, none⟩), .pointer (some ⟨bk, 0, none⟩)] : Array Value) ++ Array.replicate (60 - (#[.func (.yield l_) #[] #[], .pointer (some ⟨bn, 0, none⟩), .pointer (some ⟨bk, 0, none⟩)] : Array Value).size) undef, []⟩ : Act) = a; intro hF
    have hH := (it_start hLI hX h1 h2 777).marks0 500
    have hH := ((hH.addro 63 (.ro (.arena 62 9 S)) (fun k h => h) (hH.holds 3 _ rfl) (fun k hk => ⟨3, _, rfl, hk⟩)).addro 62 (.ro (.blk bk (.cells #[.string (strOfNums p.path)] 9 (0, 0)))) (fun k h => h) (hH.holds 2 _ rfl) (fun k hk => ⟨2, _, rfl, hk⟩)).addro 61 (.ro (.blk bn (.cells #[ptrV p.nb] 56 (0, 0)))) (fun k h => h) (hH.holds 1 _ rfl) (fun k hk => ⟨1, _, rfl, hk⟩)
    obtain ⟨bp, hbp, hH⟩ := hH.arRo 63 11 12 14 (by decide) rfl hp
    have hH := hH.relab 61 (Y := .ro (.blk bn (.cells #[.pointer (some ⟨bp, 0, none⟩)] 56 (0, 0)))) rfl (by rw [ptrV_of hbp])
    refine wp_seq_k fun khK1 hK1 => ?_
    refine wp_region_lit ?_
    refine wpList_plain rfl fun K hK => ?_
    refine w_box 33 hF hH rfl (hF.tmp 0 rfl) ?_
    clear hF hH; intro a w b3 hF hH
    refine hK _ _ ?_; clear hK K
    refine wpList_nil ?_
    refine hK1 _ _ ?_
    refine wp_seq_k fun khK2 hK2 => ?_
    refine wp_seq_k fun khK3 hK3 => ?_
    have hJr1 : ∀ a w, ∀ X_ : Asn, JP (valL p) X_ → (∀ k, X_.rd k → X.own k ∨ X.rd k ∨ (fun _ => False : Nat → Prop) k ∨ w0.heap.size ≤ k) → Fr 60 a [(1, .pointer (some ⟨bn, 0, none⟩)), (2, .pointer (some ⟨bk, 0, none⟩)), (3, .pointer (some ⟨b3, 0, none⟩))] → Hp (fun k => X.own k ∨ OwnL [(1, .ro (.blk bn (.cells #[ptrV p.nb] 56 (0, 0)))), (2, .ro (.blk bk (.cells #[.string (strOfNums p.path)] 9 (0, 0)))), (3, .ro (.arena 62 9 S))] k) w0 w [(61, .ro (.blk bn (.cells #[.pointer (some ⟨bp, 0, none⟩)] 56 (0, 0)))), (62, .ro (.blk bk (.cells #[.string (strOfNums p.path)] 9 (0, 0)))), (63, .ro (.arena 62 9 S)), (777, X_), (500, .marks []), (11, .ro (.blk bp (.cells #[.string (strOfNums p.lab), .pointer (valA p.val), .map (some p.mb)] 62 (0, 0)))), (12, .ro (.map KB NV p.mb p.kids noB)), (33, .blk b3 (.cells #[.func (.yield l_) #[] #[]] 71 (0, 0)))] → khK2 a w := by
      intro a w X_ hj_0 hj_1 hF hH
      refine hK2 a w ?_
      refine wp_seq_k fun khK4 hK4 => ?_
      refine wp_region_lit ?_
      refine l_at hF rfl rfl rfl (x_load1 ty56 (hF.tmp 1 rfl) (blk_cell (hH.atro 61 rfl) 0 rfl)) ?_; clear hF; intro a hF
      refine l_at hF rfl rfl rfl (x_nil (hF.tmp 25 rfl)) ?_; clear hF; intro a hF
      refine l_at hF rfl rfl rfl (x_faddr Try.underlying62 rfl ty60 (by decide) (hF.tmp 26 rfl) rfl) ?_; clear hF; intro a hF
      refine l_at hF rfl rfl rfl (x_load1 ty60 (hF.tmp 27 rfl) (blk_cell (hH.atro 11 rfl) 2 rfl)) ?_; clear hF; intro a hF
      refine wpList_plain rfl fun K hK => ?_
      refine w_call hF (x_enter Try.func37 (by kernel_rfl) rfl (by simp only [List.map_toArray, List.map_cons, List.map_nil, hF.tmp 28 rfl] <;> rfl)) (keys_calls _ p.mb) rfl rfl ?_
      rintro _ w ⟨b29, rfl, hm_, hb29, hc29⟩; refine ⟨_, rfl, ?_⟩; clear hF; intro a hF; have hH := hH.newBlk 29 hm_ hb29 hc29
      refine hK _ _ ?_; clear hK K
      refine wpList_plain rfl fun K hK => ?_
      refine w_call hF (x_enter Try.func36 (by kernel_rfl) rfl (by simp only [List.map_toArray, List.map_cons, List.map_nil, hF.tmp 29 rfl] <;> rfl)) (sorted_calls _ ((((((hH.roAny 29 rfl).addro 1 (.ro (.blk b29 (.cells #[.map (some p.mb)] 60 (0, 0)))) (fun k h => h) (hH.at 29 rfl) (fun k hk => ⟨29, _, rfl, hk⟩)).addro 2 (.ro (.map KB NV p.mb p.kids noB)) (fun k h => h) (hH.holds 12 _ rfl) (fun k hk => ⟨12, _, rfl, hk⟩)).sub [(1, .ro (.blk b29 (.cells #[.map (some p.mb)] 60 (0, 0)))), (2, .ro (.map KB NV p.mb p.kids noB))] (sub_cons (sub_cons (sub_nil _) 2 rfl) 1 rfl)).still (own_cons (fun k h => h.elim) (own_cons (fun k h => h.elim) own_nil)))) (hkm p hp)) rfl rfl ?_
      rintro _ w ⟨v30, rfl, hm_, hr_⟩; refine ⟨_, rfl, ?_⟩; clear hF; intro a hF; have hH := Hp.rowOut hH 30 hm_ hr_
      refine hK _ _ ?_; clear hK K
      have hkl9 : (ksOf p).length ≤ kmax := by rw [ksOf_len]; exact hkm p hp
      unfold kmax at hkl9
      obtain ⟨Ak, ck, rfl⟩ := (hH.row 30 rfl).form
      refine l_at hF rfl rfl rfl (x_len_slice Try.underlying72 (hF.tmp 30 rfl)) ?_; clear hF; intro a hF
      refine l_at hF rfl rfl rfl (x_move rfl) ?_; clear hF; intro a hF
      refine wpList_nil ?_
      refine hK4 _ _ ?_
      refine wp_block ?_
      refine wp_loop_ghost (fun n_ a w => ∃ i : Nat, ∃ X_ : Asn, ∃ bs : List Nat, n_ = (ksOf p).length - i ∧ (i ≤ (ksOf p).length) ∧ (JP (toldN S l p i) X_) ∧ (∀ k, X_.rd k → X.own k ∨ X.rd k ∨ (fun _ => False : Nat → Prop) k ∨ w0.heap.size ≤ k) ∧ FrD (dsOf bs) 60 a [(1, .pointer (some ⟨bn, 0, none⟩)), (2, .pointer (some ⟨bk, 0, none⟩)), (3, .pointer (some ⟨b3, 0, none⟩)), (30, .slice Ak (ksOf p).length ck), (31, .int .i64 ((ksOf p).length : Int)), (32, .int .i64 (i : Int))] ∧ Hp (fun k => X.own k ∨ OwnL [(1, .ro (.blk bn (.cells #[ptrV p.nb] 56 (0, 0)))), (2, .ro (.blk bk (.cells #[.string (strOfNums p.path)] 9 (0, 0)))), (3, .ro (.arena 62 9 S))] k) w0 w [(61, .ro (.blk bn (.cells #[.pointer (some ⟨bp, 0, none⟩)] 56 (0, 0)))), (62, .ro (.blk bk (.cells #[.string (strOfNums p.path)] 9 (0, 0)))), (63, .ro (.arena 62 9 S)), (777, X_), (500, .marks bs), (11, .ro (.blk bp (.cells #[.string (strOfNums p.lab), .pointer (valA p.val), .map (some p.mb)] 62 (0, 0)))), (12, .ro (.map KB NV p.mb p.kids noB)), (33, .blk b3 (.cells #[.func (.yield l_) #[] #[]] 71 (0, 0))), (29, .blk b29 (.cells #[.map (some p.mb)] 60 (0, 0))), (30, .row RB 5 (.slice Ak (ksOf p).length ck) (ksOf p) (fun _ => False))]) ((ksOf p).length) ?_ ?_
      · exact ⟨0, X_, [], rfl, Nat.zero_le _, (by rw [told_zero]; exact hj_0), hj_1, ((((((hF.bare.add hF 32 rfl).add hF 31 rfl).add hF 30 rfl).add hF 3 rfl).add hF 2 rfl).add hF 1 rfl), hH.sub _ (sub_cons (sub_cons (sub_cons (sub_cons (sub_cons (sub_cons (sub_cons (sub_cons (sub_cons (sub_cons (sub_nil _) 30 rfl) 29 rfl) 33 rfl) 12 rfl) 11 rfl) 500 rfl) 777 rfl) 63 rfl) 62 rfl) 61 rfl)⟩
      · rintro _ a w ⟨i, X_, bs, rfl, hq0_0, hq0_1, hq0_2, hF, hH⟩
        refine wp_seq_k fun khK5 hK5 => ?_
        refine wp_region_lit ?_
        refine l_at hF rfl rfl rfl (x_lss (hF.tmp 32 rfl) (hF.tmp 31 rfl)) ?_; clear hF; intro a hF
        refine wpList_nil ?_
        refine hK5 _ _ ?_
        refine wp_seq_k fun khK6 hK6 => ?_
        refine wp_cond_split (hF.tmp 33 rfl) (fun hc33 => ?_) (fun hc33 => ?_)
        · have hk33_1 := hc33; try simp only [Bool.or_eq_true, Bool.and_eq_true, Bool.or_eq_false_iff, Bool.and_eq_false_iff, Bool.not_eq_true', Bool.not_eq_false', decide_eq_true_eq, decide_eq_false_iff_not, Bool.not_true, Bool.not_false] at hc33
          refine wp_skip ?_
          refine hK6 _ _ ?_
          refine wp_seq_k fun khK7 hK7 => ?_
          refine wp_block ?_
          refine wp_seq_k fun khK8 hK8 => ?_
          refine wp_region_lit ?_
          refine l_at hF rfl rfl rfl (x_iaddr_A Try.underlying72 ty5 (Row.rd (ok' := fun k_ => (fun _ => False) k_ ∨ (.slice Ak (ksOf p).length ck : Value).ownBlock = some k_) (hH.row 30 rfl) (fun _ hk_ _ => .inl hk_) (fun _ hk_ => .inr hk_)) (hF.tmp 30 rfl) (hF.tmp 32 rfl) (by omega) (by omega) _) ?_; clear hF; intro a hF
          refine l_at hF rfl rfl rfl (x_load1 ty5 (hF.tmp 34 rfl) ((Row.rd (ok' := fun k_ => (fun _ => False) k_ ∨ (.slice Ak (ksOf p).length ck : Value).ownBlock = some k_) (hH.row 30 rfl) (fun _ hk_ _ => .inl hk_) (fun _ hk_ => .inr hk_)).cellA (gi_some (i := (i : Int)) (by omega) (by omega)))) ?_; clear hF; intro a hF
          refine l_at hF rfl rfl rfl (x_assign (hF.tmp 35 rfl)) ?_; clear hF; intro a hF
          obtain ⟨q, hq, hkq⟩ := ksOf_kid hw hp (i := i) (by omega)
          have hql := kid_len hw hp hq hkq
          have hqb := hw.byte q hq
          have hpb := hw.byte p hp
          obtain ⟨bq, hbq, hH⟩ := hH.arRo 63 21 22 24 (by decide) rfl hq
          refine wpList_nil ?_
          refine hK8 _ _ ?_
          refine wp_seq_k fun khK9 hK9 => ?_
          refine r_start [(61, .ro (.blk bn (.cells #[.pointer (some ⟨bp, 0, none⟩)] 56 (0, 0)))), (62, .ro (.blk bk (.cells #[.string (strOfNums p.path)] 9 (0, 0)))), (11, .ro (.blk bp (.cells #[.string (strOfNums p.lab), .pointer (valA p.val), .map (some p.mb)] 62 (0, 0)))), (12, .ro (.map KB NV p.mb p.kids noB)), (21, .ro (.blk bq (.cells #[.string (strOfNums q.lab), .pointer (valA q.val), .map (some q.mb)] 62 (0, 0))))] (by kernel_rfl) hH fun hH => ?_
          have hS : SL [(61, .ro (.blk bn (.cells #[.pointer (some ⟨bp, 0, none⟩)] 56 (0, 0)))), (62, .ro (.blk bk (.cells #[.string (strOfNums p.path)] 9 (0, 0)))), (11, .ro (.blk bp (.cells #[.string (strOfNums p.lab), .pointer (valA p.val), .map (some p.mb)] 62 (0, 0)))), (12, .ro (.map KB NV p.mb p.kids noB)), (21, .ro (.blk bq (.cells #[.string (strOfNums q.lab), .pointer (valA q.val), .map (some q.mb)] 62 (0, 0))))] _ := SL.of hH (sub_cons (sub_cons (sub_cons (sub_cons (sub_cons (sub_nil _) 21 rfl) 12 rfl) 11 rfl) 62 rfl) 61 rfl)
          refine r_take 0 hF rfl rfl rfl (by kernel_rfl) (by kernel_rfl) (by kernel_rfl) (fun _ _ _ h => h) rfl hS (fun w hS => x_load1 ty56 (hF.tmp 1 rfl) (blk_cell (SL.atro hS 61 rfl) 0 rfl)) rfl ?_; clear hF; intro a hF
          refine r_take 1 hF rfl rfl rfl (by kernel_rfl) (by kernel_rfl) (by kernel_rfl) (fun _ _ _ h => h) rfl hS (fun w hS => x_nil (hF.tmp 36 rfl)) rfl ?_; clear hF; intro a hF
          refine r_take 2 hF rfl rfl rfl (by kernel_rfl) (by kernel_rfl) (by kernel_rfl) (fun _ _ _ h => h) rfl hS (fun w hS => x_faddr Try.underlying62 rfl ty60 (by decide) (hF.tmp 37 rfl) rfl) rfl ?_; clear hF; intro a hF
          refine r_take 3 hF rfl rfl rfl (by kernel_rfl) (by kernel_rfl) (by kernel_rfl) (fun _ _ _ h => h) rfl hS (fun w hS => x_load1 ty60 (hF.tmp 38 rfl) (blk_cell (SL.atro hS 11 rfl) 2 rfl)) rfl ?_; clear hF; intro a hF
          refine r_take 4 hF rfl rfl rfl (by kernel_rfl) (by kernel_rfl) (by kernel_rfl) (fun _ _ _ h => h) rfl hS (fun w hS => x_move (hF.tmp 5 rfl)) rfl ?_; clear hF; intro a hF
          refine r_take 5 hF rfl rfl rfl (by kernel_rfl) (by kernel_rfl) (by kernel_rfl) (fun _ _ _ h => h) rfl hS (fun w hS => x_lookF (enc := ptrV) (x0 := 0) (k := (gi (ksOf p) (i : Int))) (hS 12 _ rfl) Try.underlying60 Try.underlying5 (ty56).zero (hF.tmp 39 rfl) (hF.tmp 40 rfl)) rfl ?_; clear hF; intro a hF
          rw [kidV hkq hbq] at hF
          refine r_take 6 hF rfl rfl rfl (by kernel_rfl) (by kernel_rfl) (by kernel_rfl) (fun _ _ _ h => h) rfl hS (fun w hS => x_load1 ty9 (hF.tmp 2 rfl) (blk_cell (SL.atro hS 62 rfl) 0 rfl)) rfl ?_; clear hF; intro a hF
          refine r_take 7 hF rfl rfl rfl (by kernel_rfl) (by kernel_rfl) (by kernel_rfl) (fun _ _ _ h => h) rfl hS (fun w hS => x_load1 ty56 (hF.tmp 1 rfl) (blk_cell (SL.atro hS 61 rfl) 0 rfl)) rfl ?_; clear hF; intro a hF
          refine r_take 8 hF rfl rfl rfl (by kernel_rfl) (by kernel_rfl) (by kernel_rfl) (fun _ _ _ h => h) rfl hS (fun w hS => x_nil (hF.tmp 43 rfl)) rfl ?_; clear hF; intro a hF
          refine r_take 9 hF rfl rfl rfl (by kernel_rfl) (by kernel_rfl) (by kernel_rfl) (fun _ _ _ h => h) rfl hS (fun w hS => x_faddr Try.underlying62 rfl ty60 (by decide) (hF.tmp 44 rfl) rfl) rfl ?_; clear hF; intro a hF
          refine r_take 10 hF rfl rfl rfl (by kernel_rfl) (by kernel_rfl) (by kernel_rfl) (fun _ _ _ h => h) rfl hS (fun w hS => x_load1 ty60 (hF.tmp 45 rfl) (blk_cell (SL.atro hS 11 rfl) 2 rfl)) rfl ?_; clear hF; intro a hF
          refine r_take 11 hF rfl rfl rfl (by kernel_rfl) (by kernel_rfl) (by kernel_rfl) (fun _ _ _ h => h) rfl hS (fun w hS => x_move (hF.tmp 5 rfl)) rfl ?_; clear hF; intro a hF
          refine r_take 12 hF rfl rfl rfl (by kernel_rfl) (by kernel_rfl) (by kernel_rfl) (fun _ _ _ h => h) rfl hS (fun w hS => x_lookF (enc := ptrV) (x0 := 0) (k := (gi (ksOf p) (i : Int))) (hS 12 _ rfl) Try.underlying60 Try.underlying5 (ty56).zero (hF.tmp 46 rfl) (hF.tmp 47 rfl)) rfl ?_; clear hF; intro a hF
          rw [kidV hkq hbq] at hF
          refine r_take 13 hF rfl rfl rfl (by kernel_rfl) (by kernel_rfl) (by kernel_rfl) (fun _ _ _ h => h) rfl hS (fun w hS => x_nil (hF.tmp 48 rfl)) rfl ?_; clear hF; intro a hF
          refine r_take 14 hF rfl rfl rfl (by kernel_rfl) (by kernel_rfl) (by kernel_rfl) (fun _ _ _ h => h) rfl hS (fun w hS => x_faddr Try.underlying62 rfl ty9 (by decide) (hF.tmp 49 rfl) rfl) rfl ?_; clear hF; intro a hF
          refine r_take 15 hF rfl rfl rfl (by kernel_rfl) (by kernel_rfl) (by kernel_rfl) (fun _ _ _ h => h) rfl hS (fun w hS => x_load1 ty9 (hF.tmp 50 rfl) (blk_cell (SL.atro hS 21 rfl) 0 rfl)) rfl ?_; clear hF; intro a hF
          refine r_take 16 hF rfl rfl rfl (by kernel_rfl) (by kernel_rfl) (by kernel_rfl) (fun _ _ _ h => h) rfl hS (fun w hS => x_adds (xs := p.path) (ys := q.lab) (hF.tmp 42 rfl) (hF.tmp 51 rfl) (by omega)) rfl ?_; clear hF; intro a hF
          rw [← ptrV_of hbq] at hF
          refine r_do 17 rfl (by kernel_rfl) rfl rfl ?_
          refine w_call hF (x_enter Try.func29 (by kernel_rfl) rfl (by simp only [List.map_toArray, List.map_cons, List.map_nil, hF.tmp 41 rfl, hF.tmp 52 rfl] <;> rfl)) (each_calls _ q.nb (p.path ++ q.lab)) rfl rfl ?_
          rintro _ w ⟨bn2, bk2, rfl, hL_⟩; refine ⟨_, rfl, ?_⟩; clear hF; intro a hF; have hH := ((hH.merge hL_.mods hL_ (rdin_cons (fun k h => h.elim) (rdin_cons (fun k h => h.elim) rdin_nil))).roAny 51 rfl).roAny 52 rfl; have hH := hH.relab 52 (Y := .ro (.blk bk2 (.cells #[.string (strOfNums q.path)] 9 (0, 0)))) rfl (by rw [(hw.kid' hp hq hkq).1])
          clear hS; have hS : SL _ _ := SL.of hH (sub_cons (sub_cons (sub_cons (sub_cons (sub_cons (sub_nil _) 21 rfl) 12 rfl) 11 rfl) 62 rfl) 61 rfl); refine ⟨hS, ?_⟩
          refine r_end (by kernel_rfl) ?_; clear hS
          refine hK9 _ _ ?_
          refine wp_block ?_
          have hwl9 := hH.mods.size
          refine wp_rangeM hF hH 100 101 (hF.tmp 53 rfl) Try.func35 (by kernel_rfl) rfl ?_
          intro r l2 bk9 w hr hl9_ hH0; clear hH
          have hl9 := Nat.le_trans hwl9 hl9_
          have hH9 := ((hH0.addro 3 (.ro (.arena 62 9 S)) (fun k h => h) (hH0.holds 63 _ rfl) (fun k hk => ⟨63, _, rfl, hk⟩)).addro 2 (.ro (.blk bk2 (.cells #[.string (strOfNums q.path)] 9 (0, 0)))) (fun k h => h) (hH0.holds 52 _ rfl) (fun k hk => ⟨52, _, rfl, hk⟩)).addro 1 (.ro (.blk bn2 (.cells #[ptrV q.nb] 56 (0, 0)))) (fun k h => h) (hH0.holds 51 _ rfl) (fun k hk => ⟨51, _, rfl, hk⟩)
          have hLI2 : (Asn.all [(1, .ro (.blk bn2 (.cells #[ptrV q.nb] 56 (0, 0)))), (2, .ro (.blk bk2 (.cells #[.string (strOfNums q.path)] 9 (0, 0)))), (3, .ro (.arena 62 9 S))]).holds w := (hH9.sub _ (sub_cons (sub_cons (sub_cons (sub_nil _) 3 rfl) 2 rfl) 1 rfl)).asAll
          have hFD := hF.defer ({ target := .collected bk9, args := #[] } :: dsOf bs)
          refine Calls.mono (ih w q bn2 bk2 hLI2 hq (by omega) l2 (fun (pre : List Ent) (Y : Asn) => ∃ Z : Asn, Y = Asn.all [(100, .blk l2 (.loop r)), (33, .blk b3 (.cells #[.func (.yield l_) #[] #[]] 71 (0, 0))), (777, Z)] ∧ JP (toldN S l p i ++ pre) Z ∧ ((∀ k, Z.own k → X.own k ∨ w0.heap.size ≤ k) ∧ (∀ k, Z.rd k → X.own k ∨ X.rd k ∨ (fun _ => False : Nat → Prop) k ∨ w0.heap.size ≤ k))) (fun (pre : List Ent) (Y : Asn) => ∃ Z : Asn, Y = Asn.all [(100, .blk l2 (.loop { r with state := .done, pending := some .ret })), (33, .blk b3 (.cells #[.func (.yield l_) #[] #[]] 71 (0, 0))), (777, Z)] ∧ DN (toldN S l p i ++ pre) Z ∧ ((∀ k, Z.own k → X.own k ∨ w0.heap.size ≤ k) ∧ (∀ k, Z.rd k → X.own k ∨ X.rd k ∨ (fun _ => False : Nat → Prop) k ∨ w0.heap.size ≤ k))) (Asn.all [(100, .blk l2 (.loop r)), (33, .blk b3 (.cells #[.func (.yield l_) #[] #[]] 71 (0, 0))), (777, X_)]) (hH9.sub _ (sub_cons (sub_cons (sub_cons (sub_nil _) 777 rfl) 33 rfl) 100 rfl)).okAll (hH9.apart (sub_cons (sub_cons (sub_cons (sub_nil _) 3 rfl) 2 rfl) 1 rfl) (sub_cons (sub_cons (sub_cons (sub_nil _) 777 rfl) 33 rfl) 100 rfl) (apart_cons rfl (apart_cons rfl (apart_cons rfl (apart_nil _))))) (fun k hk h => hH9.apart (sub_cons (sub_cons (sub_cons (sub_nil _) 777 rfl) 33 rfl) 100 rfl) (sub_cons (sub_cons (sub_cons (sub_nil _) 3 rfl) 2 rfl) 1 rfl) (apart_cons rfl (apart_cons rfl (apart_cons rfl (apart_nil _)))) k h (.inr hk)) ?_ ⟨_, rfl, by rw [List.append_nil]; exact hq0_1, it_own hH9 777 rfl (own_cons (fun k hk => hk.elim) (own_cons (fun k hk => hk.elim) (own_cons (fun k hk => hk.elim) own_nil))), hq0_2⟩) ?_
          ·
            rintro pre ⟨ek, ev⟩ Xx w1 args rdY ⟨xs, rfl, hpre⟩ ⟨Z, rfl, hJZ, hZo, hZr⟩ hXok ⟨rfl, hrdY⟩ _
            have hgr9 : w0.heap.size ≤ w1.heap.size := Nat.le_of_lt (Nat.lt_of_le_of_lt hl9 (hXok.inb l2 (.inl ⟨100, _, rfl, rfl⟩)))
            refine round_walk (ll := 100) hXok.holds rfl hr ?_
            have hH := Hp.ofAll hXok.holds
            have hF := hF.roundD 54 (.agg #[.string (strOfNums ek), .string (strOfNums ev)]) rfl
            generalize ({ tmps := _, defers := [] } : Act) = a at hF ⊢
            have hF : Fr 60 a [(54, .agg #[.string (strOfNums ek), .string (strOfNums ev)]), (3, .pointer (some ⟨b3, 0, none⟩))] := ((hF.bare.add hF 3 rfl).add hF 54 rfl)
            refine region_in (by repeat (first | exact no_round | exact no_false | apply no_then | apply no_block)) rfl ?_
            refine wpList_plain rfl fun K hK => ?_
            refine w_alloc 6 hF hH rfl ty30 ?_
            clear hF hH; intro a w b6 hF hH
            refine hK _ _ ?_; clear hK K
            refine wpList_plain rfl fun K hK => ?_
            refine w_storeA 6 hH ty30 rfl (hF.tmp 6 rfl) (hF.tmp 54 rfl) rfl (by simp [Value.cells, Value.oneCell']) rfl ?_
            clear hH; intro w hH
            refine hK _ _ ?_; clear hK K
            refine wpList_nil ?_
            try simp only [Exit.then, Exit.inBlock]
            refine begin_round hH 100 rfl hr.state fun w hH => ?_
            refine wpIn_block ?_
            refine wpIn_seq_k fun khK10 hK10 => ?_
            refine regionR ?_
            refine li_atR hF rfl rfl rfl rfl (x_load1 ty71 (hF.tmp 3 rfl) (blk_cell (hH.at 33 rfl) 0 rfl)) ?_; clear hF; intro a hF
            refine li_atR hF rfl rfl rfl rfl (x_loadn ty30 (hF.tmp 6 rfl) rfl (blk_whole (hH.at 6 rfl))) ?_; clear hF; intro a hF
            have hround := hR0 (toldN S l p i ++ pre) (ek, ev) Z w #[.agg #[.string (strOfNums ek), .string (strOfNums ev)]] (fun _ => False) ⟨underL l p.path, rfl, by rw [List.append_assoc]; refine List.IsPrefix.trans ?_ (told_pre hw he hp (i + 1)); rw [told_succ hw hq (by omega) hkq, List.prefix_append_right_inj]; exact hpre⟩ hJZ (it_ok hH 777 rfl) ⟨rfl, fun _ h => h⟩ (fun k hk => hk.elim)
            have hszr := hH.mods.size
            refine li_yieldR hF rfl (hF.tmp 55 rfl) (vs := #[.agg #[.string (strOfNums ek), .string (strOfNums ev)]]) (by simp only [List.map_toArray, List.map_cons, List.map_nil, hF.tmp 56 rfl] <;> rfl) hround ?_; clear hF; intro a w b_ Z2 hF hR hG
            have ho2 : ∀ k, Z2.own k → X.own k ∨ w0.heap.size ≤ k := fun k hk => (hG.own k hk).elim (hZo k) (fun h => .inr (Nat.le_trans hgr9 (Nat.le_trans hszr h)))
            have hr2 : ∀ k, Z2.rd k → X.own k ∨ X.rd k ∨ (fun _ => False : Nat → Prop) k ∨ w0.heap.size ≤ k := fun k hk => (hG.rd k hk).elim (fun h => (hZo k h).imp id (fun h => .inr (.inr h))) (fun h => h.elim (hZr k) (fun h => h.elim (fun h => h.elim) (fun h => .inr (.inr (.inr (Nat.le_trans hgr9 (Nat.le_trans hszr h)))))))
            have hrz : ∀ k, Z2.rd k → OwnL [(100, .blk l2 (.loop r)), (33, .blk b3 (.cells #[.func (.yield l_) #[] #[]] 71 (0, 0))), (777, Z)] k ∨ RdL [(100, .blk l2 (.loop r)), (33, .blk b3 (.cells #[.func (.yield l_) #[] #[]] 71 (0, 0))), (777, Z)] k ∨ rdY k ∨ w1.heap.size ≤ k := fun k hk => (hG.rd k hk).elim (fun h => .inl ⟨777, _, rfl, h⟩) (fun h => h.elim (fun h => .inr (.inl ⟨777, _, rfl, h⟩)) (fun h => h.elim (fun h => h.elim) (fun h => .inr (.inr (.inr (Nat.le_trans hszr h))))))
            have hH := hH.grew 777 rfl hG (fun k hk => hk.elim)
            cases b_
            ·
              replace hR : DN ((toldN S l p i ++ pre) ++ [(ek, ev)]) Z2 := hR
              refine li_atR hF rfl rfl rfl rfl (x_not (hF.tmp 57 rfl)) ?_; clear hF; intro a hF
              refine li_nilR ?_
              refine hK10 _ _ ?_
              refine wpIn_cond_true (hF.tmp 58 rfl) ?_
              refine wpIn_ret ?_
              try simp only [Exit.then, Exit.inBlock]
              refine end_jump hH 100 rfl fun w hH => ?_
              have hh := hH.sub [(100, .blk l2 (.loop { r with state := .done, pending := some .ret })), (33, .blk b3 (.cells #[.func (.yield l_) #[] #[]] 71 (0, 0))), (777, Z2)] (sub_cons (sub_cons (sub_cons (sub_nil _) 777 rfl) 33 rfl) 100 rfl)
              exact ⟨false, _, rfl, ⟨_, rfl, by rw [← List.append_assoc]; exact hR, ho2, hr2⟩, grew_of hh (rdin_cons (fun k h => h.elim) (rdin_cons (fun k h => h.elim) (rdin_cons hrz rdin_nil)))⟩
            ·
              replace hR : JP ((toldN S l p i ++ pre) ++ [(ek, ev)]) Z2 := hR
              refine li_atR hF rfl rfl rfl rfl (x_not (hF.tmp 57 rfl)) ?_; clear hF; intro a hF
              refine li_nilR ?_
              refine hK10 _ _ ?_
              refine wpIn_cond_false (hF.tmp 58 rfl) ?_
              refine wpIn_skip ?_
              try simp only [Exit.then, Exit.inBlock]
              refine end_next hH 100 rfl hr fun w hH => ?_
              have hh := hH.sub [(100, .blk l2 (.loop r)), (33, .blk b3 (.cells #[.func (.yield l_) #[] #[]] 71 (0, 0))), (777, Z2)] (sub_cons (sub_cons (sub_cons (sub_nil _) 777 rfl) 33 rfl) 100 rfl)
              exact ⟨true, _, rfl, ⟨_, rfl, by rw [← List.append_assoc]; exact hR, ho2, hr2⟩, grew_of hh (rdin_cons (fun k h => h.elim) (rdin_cons (fun k h => h.elim) (rdin_cons hrz rdin_nil)))⟩
          ·
            rintro e w' ⟨v_, Y, xs, rfl, rfl, hor, hG⟩
            rcases hor with ⟨Z, rfl, hJZ, hZo, hZr⟩ | ⟨pre, hpre, Z, rfl, hJZ, hZo, hZr⟩
            ·
              have hH := Hp.back hH9 (sub_cons (sub_cons (sub_cons (sub_nil _) 777 rfl) 33 rfl) 100 rfl) (sub_cons (sub_cons (sub_cons (sub_nil _) 3 rfl) 2 rfl) 1 rfl) hG (fun k h => h.elim) [(1, .emp), (2, .emp), (3, .emp)] (cover_cons rfl (cover_cons rfl (cover_cons rfl (cover_nil _)))) (emps_cons (emps_cons (emps_cons emps_nil))) (cover_cons rfl (cover_cons rfl (cover_cons rfl (cover_nil _)))) (apart_cons rfl (apart_cons rfl (apart_cons rfl (apart_nil _))))
              have hH : Hp _ w0 w' [(61, .ro (.blk bn (.cells #[.pointer (some ⟨bp, 0, none⟩)] 56 (0, 0)))), (62, .ro (.blk bk (.cells #[.string (strOfNums p.path)] 9 (0, 0)))), (63, .ro (.arena 62 9 S)), (777, Z), (500, .marks bs), (11, .ro (.blk bp (.cells #[.string (strOfNums p.lab), .pointer (valA p.val), .map (some p.mb)] 62 (0, 0)))), (12, .ro (.map KB NV p.mb p.kids noB)), (33, .blk b3 (.cells #[.func (.yield l_) #[] #[]] 71 (0, 0))), (29, .blk b29 (.cells #[.map (some p.mb)] 60 (0, 0))), (30, .row RB 5 (.slice Ak (ksOf p).length ck) (ksOf p) (fun _ => False)), (21, .ro (.blk bq (.cells #[.string (strOfNums q.lab), .pointer (valA q.val), .map (some q.mb)] 62 (0, 0)))), (22, .ro (.map KB NV q.mb q.kids noB)), (24, vro 9 q.val), (51, .ro (.blk bn2 (.cells #[ptrV q.nb] 56 (0, 0)))), (52, .ro (.blk bk2 (.cells #[.string (strOfNums q.path)] 9 (0, 0)))), (101, .blk bk9 (.deferred (some []))), (100, .blk l2 (.loop r))] := hH.sub _ (sub_cons (sub_cons (sub_cons (sub_cons (sub_cons (sub_cons (sub_cons (sub_cons (sub_cons (sub_cons (sub_cons (sub_cons (sub_cons (sub_cons (sub_cons (sub_cons (sub_cons (sub_nil _) 100 rfl) 101 rfl) 52 rfl) 51 rfl) 24 rfl) 22 rfl) 21 rfl) 30 rfl) 29 rfl) 33 rfl) 12 rfl) 11 rfl) 500 rfl) 777 rfl) 63 rfl) 62 rfl) 61 rfl)
              refine range_next hH 100 rfl (by rw [hr.state]; decide) hr.pending fun w hH => ?_
              clear hF; have hF : FrD (dsOf (bk9 :: bs)) _ _ _ := hFD; revert hF; generalize ({ tmps := a.tmps, defers := { target := .collected bk9, args := #[] } :: dsOf bs } : Act) = a; intro hF
              have hH := hH.markAdd 500 101 (by decide) rfl rfl
              try simp only [Exit.then, Exit.inBlock]
              refine hK7 _ _ ?_
              refine wp_region_lit ?_
              refine l_at hF rfl rfl rfl (x_add (hF.tmp 32 rfl) rfl (w64 (by omega) (by omega))) ?_; clear hF; intro a hF
              refine l_at hF rfl rfl rfl (x_move (hF.tmp 59 rfl)) ?_; clear hF; intro a hF
              refine wpList_nil ?_
              exact ⟨_, by omega, ⟨i + 1, Z, bk9 :: bs, rfl, by omega, (by rw [told_succ hw hq (by omega) hkq]; exact hJZ), hZr, ((((((hF.bare.add hF 32 rfl).add hF 31 rfl).add hF 30 rfl).add hF 3 rfl).add hF 2 rfl).add hF 1 rfl), hH.sub _ (sub_cons (sub_cons (sub_cons (sub_cons (sub_cons (sub_cons (sub_cons (sub_cons (sub_cons (sub_cons (sub_nil _) 30 rfl) 29 rfl) 33 rfl) 12 rfl) 11 rfl) 500 rfl) 777 rfl) 63 rfl) 62 rfl) 61 rfl)⟩⟩
            ·
              have hH := Hp.back hH9 (sub_cons (sub_cons (sub_cons (sub_nil _) 777 rfl) 33 rfl) 100 rfl) (sub_cons (sub_cons (sub_cons (sub_nil _) 3 rfl) 2 rfl) 1 rfl) hG (fun k h => h.elim) [(1, .emp), (2, .emp), (3, .emp)] (cover_cons rfl (cover_cons rfl (cover_cons rfl (cover_nil _)))) (emps_cons (emps_cons (emps_cons emps_nil))) (cover_cons rfl (cover_cons rfl (cover_cons rfl (cover_nil _)))) (apart_cons rfl (apart_cons rfl (apart_cons rfl (apart_nil _))))
              have hH : Hp _ w0 w' [(61, .ro (.blk bn (.cells #[.pointer (some ⟨bp, 0, none⟩)] 56 (0, 0)))), (62, .ro (.blk bk (.cells #[.string (strOfNums p.path)] 9 (0, 0)))), (63, .ro (.arena 62 9 S)), (777, Z), (500, .marks bs), (11, .ro (.blk bp (.cells #[.string (strOfNums p.lab), .pointer (valA p.val), .map (some p.mb)] 62 (0, 0)))), (12, .ro (.map KB NV p.mb p.kids noB)), (33, .blk b3 (.cells #[.func (.yield l_) #[] #[]] 71 (0, 0))), (29, .blk b29 (.cells #[.map (some p.mb)] 60 (0, 0))), (30, .row RB 5 (.slice Ak (ksOf p).length ck) (ksOf p) (fun _ => False)), (21, .ro (.blk bq (.cells #[.string (strOfNums q.lab), .pointer (valA q.val), .map (some q.mb)] 62 (0, 0)))), (22, .ro (.map KB NV q.mb q.kids noB)), (24, vro 9 q.val), (51, .ro (.blk bn2 (.cells #[ptrV q.nb] 56 (0, 0)))), (52, .ro (.blk bk2 (.cells #[.string (strOfNums q.path)] 9 (0, 0)))), (101, .blk bk9 (.deferred (some []))), (100, .blk l2 (.loop { r with state := .done, pending := some .ret }))] := hH.sub _ (sub_cons (sub_cons (sub_cons (sub_cons (sub_cons (sub_cons (sub_cons (sub_cons (sub_cons (sub_cons (sub_cons (sub_cons (sub_cons (sub_cons (sub_cons (sub_cons (sub_cons (sub_nil _) 100 rfl) 101 rfl) 52 rfl) 51 rfl) 24 rfl) 22 rfl) 21 rfl) 30 rfl) 29 rfl) 33 rfl) 12 rfl) 11 rfl) 500 rfl) 777 rfl) 63 rfl) 62 rfl) 61 rfl)
              refine range_jump hH 100 rfl (by intro h; cases h) rfl fun w hH => ?_
              clear hF; have hF : FrD (dsOf (bk9 :: bs)) _ _ _ := hFD; revert hF; generalize ({ tmps := a.tmps, defers := { target := .collected bk9, args := #[] } :: dsOf bs } : Act) = a; intro hF
              have hH := hH.markAdd 500 101 (by decide) rfl rfl
              try simp only [Exit.then, Exit.inBlock]
              refine wp_ret ?_
              try simp only [Exit.then, Exit.inBlock]
              refine fin_marks rfl hF hH 500 rfl fun w hh => ⟨_, _, _, rfl, rfl, (.inr ⟨toldN S l p i ++ pre, List.IsPrefix.trans (by rw [told_succ hw hq (by omega) hkq, List.prefix_append_right_inj]; exact hpre) (told_pre hw he hp (i + 1)), hJZ⟩), (grew_it hh 777 rfl (own_cons (fun k hk => hk.elim) (own_cons (fun k hk => hk.elim) (own_cons (fun k hk => hk.elim) own_nil))) hZr)⟩
        · have hk33_2 := hc33; try simp only [Bool.or_eq_true, Bool.and_eq_true, Bool.or_eq_false_iff, Bool.and_eq_false_iff, Bool.not_eq_true', Bool.not_eq_false', decide_eq_true_eq, decide_eq_false_iff_not, Bool.not_true, Bool.not_false] at hc33
          refine wp_exit ?_
          try simp only [Exit.then, Exit.inBlock]
          try simp only [if_true]
          refine fin_marksN rfl hF hH 500 rfl fun w hh => ⟨_, _, _, rfl, rfl, (.inl (by rw [told_end hw he hp (by omega)] at hq0_1; exact hq0_1)), (grew_it hh 777 rfl (own_cons (fun k hk => hk.elim) (own_cons (fun k hk => hk.elim) (own_cons (fun k hk => hk.elim) own_nil))) hq0_2)⟩
    rcases hv : p.val with _ | ⟨bv, v⟩
    ·
      have hH := hH.relab 11 (Y := .ro (.blk bp (.cells #[.string (strOfNums p.lab), .pointer none, .map (some p.mb)] 62 (0, 0)))) rfl (by rw [hv]; rfl)
      refine r_start [(61, .ro (.blk bn (.cells #[.pointer (some ⟨bp, 0, none⟩)] 56 (0, 0)))), (62, .ro (.blk bk (.cells #[.string (strOfNums p.path)] 9 (0, 0)))), (11, .ro (.blk bp (.cells #[.string (strOfNums p.lab), .pointer none, .map (some p.mb)] 62 (0, 0)))), (33, .blk b3 (.cells #[.func (.yield l_) #[] #[]] 71 (0, 0)))] (by kernel_rfl) hH fun hH => ?_
      have hS : SL [(61, .ro (.blk bn (.cells #[.pointer (some ⟨bp, 0, none⟩)] 56 (0, 0)))), (62, .ro (.blk bk (.cells #[.string (strOfNums p.path)] 9 (0, 0)))), (11, .ro (.blk bp (.cells #[.string (strOfNums p.lab), .pointer none, .map (some p.mb)] 62 (0, 0)))), (33, .blk b3 (.cells #[.func (.yield l_) #[] #[]] 71 (0, 0)))] _ := SL.of hH (sub_cons (sub_cons (sub_cons (sub_cons (sub_nil _) 33 rfl) 11 rfl) 62 rfl) 61 rfl)
      refine r_take 0 hF rfl rfl rfl (by kernel_rfl) (by kernel_rfl) (by kernel_rfl) (fun _ _ _ h => h) rfl hS (fun w hS => x_load1 ty56 (hF.tmp 1 rfl) (blk_cell (SL.atro hS 61 rfl) 0 rfl)) rfl ?_; clear hF; intro a hF
      refine r_take 1 hF rfl rfl rfl (by kernel_rfl) (by kernel_rfl) (by kernel_rfl) (fun _ _ _ h => h) rfl hS (fun w hS => x_nil (hF.tmp 7 rfl)) rfl ?_; clear hF; intro a hF
      refine r_take 2 hF rfl rfl rfl (by kernel_rfl) (by kernel_rfl) (by kernel_rfl) (fun _ _ _ h => h) rfl hS (fun w hS => x_faddr Try.underlying62 rfl ty59 (by decide) (hF.tmp 8 rfl) rfl) rfl ?_; clear hF; intro a hF
      refine r_take 3 hF rfl rfl rfl (by kernel_rfl) (by kernel_rfl) (by kernel_rfl) (fun _ _ _ h => h) rfl hS (fun w hS => x_load1 ty59 (hF.tmp 9 rfl) (blk_cell (SL.atro hS 11 rfl) 1 rfl)) rfl ?_; clear hF; intro a hF
      refine r_take 4 hF rfl rfl rfl (by kernel_rfl) (by kernel_rfl) (by kernel_rfl) (fun _ _ _ h => h) rfl hS (fun w hS => x_ptrne Try.underlying59 (hF.tmp 10 rfl) rfl) rfl ?_; clear hF; intro a hF
      refine r_take 5 hF rfl rfl rfl (by kernel_rfl) (by kernel_rfl) (by kernel_rfl) (fun _ _ _ h => h) rfl hS (fun w hS => x_move (hF.tmp 11 rfl)) rfl ?_; clear hF; intro a hF
      refine r_off 6 hF rfl rfl rfl (by kernel_rfl) (by kernel_rfl) (by kernel_rfl) (fun _ _ _ h => h) ((wanted_of hF rfl rfl rfl rfl).trans rfl) hS rfl ?_; clear hF; intro a hF
      refine r_off 7 hF rfl rfl rfl (by kernel_rfl) (by kernel_rfl) (by kernel_rfl) (fun _ _ _ h => h) ((wanted_of hF rfl rfl rfl rfl).trans rfl) hS rfl ?_; clear hF; intro a hF
      refine r_off 8 hF rfl rfl rfl (by kernel_rfl) (by kernel_rfl) (by kernel_rfl) (fun _ _ _ h => h) ((wanted_of hF rfl rfl rfl rfl).trans rfl) hS rfl ?_; clear hF; intro a hF
      refine r_off 9 hF rfl rfl rfl (by kernel_rfl) (by kernel_rfl) (by kernel_rfl) (fun _ _ _ h => h) ((wanted_of hF rfl rfl rfl rfl).trans rfl) hS rfl ?_; clear hF; intro a hF
      refine r_off 10 hF rfl rfl rfl (by kernel_rfl) (by kernel_rfl) (by kernel_rfl) (fun _ _ _ h => h) ((wanted_of hF rfl rfl rfl rfl).trans rfl) hS rfl ?_; clear hF; intro a hF
      refine r_off 11 hF rfl rfl rfl (by kernel_rfl) (by kernel_rfl) (by kernel_rfl) (fun _ _ _ h => h) ((wanted_of hF rfl rfl rfl rfl).trans rfl) hS rfl ?_; clear hF; intro a hF
      refine r_off 12 hF rfl rfl rfl (by kernel_rfl) (by kernel_rfl) (by kernel_rfl) (fun _ _ _ h => h) ((wanted_of hF rfl rfl rfl rfl).trans rfl) hS rfl ?_; clear hF; intro a hF
      refine r_off 13 hF rfl rfl rfl (by kernel_rfl) (by kernel_rfl) (by kernel_rfl) (fun _ _ _ h => h) ((wanted_of hF rfl rfl rfl rfl).trans rfl) hS rfl ?_; clear hF; intro a hF
      refine r_off 14 hF rfl rfl rfl (by kernel_rfl) (by kernel_rfl) (by kernel_rfl) (fun _ _ _ h => h) ((wanted_of hF rfl rfl rfl rfl).trans rfl) hS rfl ?_; clear hF; intro a hF
      refine r_off 15 hF rfl rfl rfl (by kernel_rfl) (by kernel_rfl) (by kernel_rfl) (fun _ _ _ h => h) ((wanted_of hF rfl rfl rfl rfl).trans rfl) hS rfl ?_; clear hF; intro a hF
      refine r_off 16 hF rfl rfl rfl (by kernel_rfl) (by kernel_rfl) (by kernel_rfl) (fun _ _ _ h => h) ((wanted_of hF rfl rfl rfl rfl).trans rfl) hS rfl ?_; clear hF; intro a hF
      refine r_take 17 hF rfl rfl rfl (by kernel_rfl) (by kernel_rfl) (by kernel_rfl) (fun _ _ _ h => h) rfl hS (fun w hS => x_pickF (hF.tmp 12 rfl) rfl rfl) rfl ?_; clear hF; intro a hF
      refine r_end (by kernel_rfl) ?_; clear hS
      refine hK3 _ _ ?_
      refine wp_cond_false (hF.tmp 24 rfl) ?_
      refine wp_skip ?_
      have hH := hH.relab 11 (Y := .ro (.blk bp (.cells #[.string (strOfNums p.lab), .pointer (valA p.val), .map (some p.mb)] 62 (0, 0)))) rfl (by rw [hv]; rfl)
      exact hJr1 _ _ X (by rw [told_none hv]; exact hJ0) (fun k h => .inr (.inl h)) (((hF.bare.add hF 3 rfl).add hF 2 rfl).add hF 1 rfl) (hH.sub _ (sub_cons (sub_cons (sub_cons (sub_cons (sub_cons (sub_cons (sub_cons (sub_cons (sub_nil _) 33 rfl) 12 rfl) 11 rfl) 500 rfl) 777 rfl) 63 rfl) 62 rfl) 61 rfl))
    ·
      have hH := hH.relab 11 (Y := .ro (.blk bp (.cells #[.string (strOfNums p.lab), .pointer (some ⟨bv, 0, none⟩), .map (some p.mb)] 62 (0, 0)))) rfl (by rw [hv]; rfl)
      have hH := hH.vroAt 14 rfl hv
      have hround := fun (w1 : World) (hX1 : X.ok w1) => hR0 [] (p.path, v) X w1 #[.agg #[.string (strOfNums p.path), .string (strOfNums v)]] (fun _ => False) ⟨underL l p.path, rfl, by rw [List.nil_append, ← told_val hv]; rw [← told_zero (S := S) (l := l)]; exact told_pre hw he hp 0⟩ hJ0 hX1 ⟨rfl, fun _ h => h⟩ (fun k hk => hk.elim)
      refine region_anyI (by kernel_rfl) hH fun w hH => ?_
      refine any_named fun W_ hW_ => ?_
      have hs_111111111111111000 : ∀ a, Fr 60 a [(0, .func (.yield l_) #[] #[]), (1, .pointer (some ⟨bn, 0, none⟩)), (2, .pointer (some ⟨bk, 0, none⟩)), (3, .pointer (some ⟨b3, 0, none⟩)), (7, .pointer (some ⟨bp, 0, none⟩)), (8, .pointer (some ⟨bp, 0, none⟩)), (9, .pointer (some ⟨bp, 1, none⟩)), (10, .pointer (some ⟨bv, 0, none⟩)), (11, .bool true), (12, .bool true), (13, .func (.yield l_) #[] #[]), (14, .string (strOfNums p.path)), (15, .pointer (some ⟨bp, 0, none⟩)), (16, .pointer (some ⟨bp, 0, none⟩)), (17, .pointer (some ⟨bp, 1, none⟩)), (18, .pointer (some ⟨bv, 0, none⟩)), (19, .pointer (some ⟨bv, 0, none⟩)), (20, .string (strOfNums v)), (21, .agg #[.string (strOfNums p.path), .string (strOfNums v)])] → W_ 3 #[true, true, true, true, true, true, true, true, true, true, true, true, true, true, true, false, false, false] a w := by
        intro a hF
        rw [hW_]
        refine rI_ready (rs := [15]) (by kernel_rfl) (by decide) (all1 ?_)
        refine rI_yield 15 hF rfl rfl ((wanted_of hF rfl rfl rfl rfl).trans rfl) (hF.tmp 13 rfl) (vs := #[.agg #[.string (strOfNums p.path), .string (strOfNums v)]]) (by simp only [List.map_toArray, List.map_cons, List.map_nil, hF.tmp 21 rfl] <;> rfl) (hround w (it_ok hH 777 rfl)) ?_; clear hF; intro a w b_ X2 hF hR hG
        have hr2 : ∀ k, X2.rd k → X.own k ∨ X.rd k ∨ (fun _ => False : Nat → Prop) k ∨ w0.heap.size ≤ k := by
          intro k hk; rcases hG.rd k hk with h1 | h1 | h1 | h1
          · exact (it_own hH 777 rfl (own_cons (fun k hk => hk.elim) (own_cons (fun k hk => hk.elim) (own_cons (fun k hk => hk.elim) own_nil))) k h1).imp id (fun h => .inr (.inr h))
          · exact (fun (k : Nat) (h : X.rd k) => (Or.inr (Or.inl h) : X.own k ∨ X.rd k ∨ (fun _ => False : Nat → Prop) k ∨ w0.heap.size ≤ k)) k h1
          · exact h1.elim
          · exact .inr (.inr (.inr (Nat.le_trans hH.mods.size h1)))
        have hH := hH.grew 777 rfl hG (fun k hk => hk.elim)
        cases b_
        ·
          replace hR : DN ([] ++ [(p.path, v)]) X2 := hR
          refine rI_ready (rs := [16]) (by kernel_rfl) (by decide) (all1 ?_)
          refine rI_op 16 hF rfl rfl rfl ((wanted_of hF rfl rfl rfl rfl).trans rfl) rfl (x_not (hF.tmp 22 rfl)) ?_; clear hF; intro a hF
          refine rI_ready (rs := [17]) (by kernel_rfl) (by decide) (all1 ?_)
          refine rI_op 17 hF rfl rfl rfl rfl rfl (x_pickT (hF.tmp 12 rfl) rfl (hF.tmp 23 rfl)) ?_; clear hF; intro a hF
          refine rI_done (by kernel_rfl) ?_
          refine hK3 _ _ ?_
          refine wp_cond_true (hF.tmp 24 rfl) ?_
          refine wp_ret ?_
          try simp only [Exit.then, Exit.inBlock]
          refine fin_marks (bs := []) rfl hF hH 500 rfl fun w hh => ⟨_, _, _, rfl, rfl, (.inr ⟨[(p.path, v)], by rw [← told_val hv, ← told_zero (S := S) (l := l)]; exact told_pre hw he hp 0, hR⟩), (grew_it hh 777 rfl (own_cons (fun k hk => hk.elim) (own_cons (fun k hk => hk.elim) (own_cons (fun k hk => hk.elim) own_nil))) hr2)⟩
        ·
          replace hR : JP ([] ++ [(p.path, v)]) X2 := hR
          refine rI_ready (rs := [16]) (by kernel_rfl) (by decide) (all1 ?_)
          refine rI_op 16 hF rfl rfl rfl ((wanted_of hF rfl rfl rfl rfl).trans rfl) rfl (x_not (hF.tmp 22 rfl)) ?_; clear hF; intro a hF
          refine rI_ready (rs := [17]) (by kernel_rfl) (by decide) (all1 ?_)
          refine rI_op 17 hF rfl rfl rfl rfl rfl (x_pickT (hF.tmp 12 rfl) rfl (hF.tmp 23 rfl)) ?_; clear hF; intro a hF
          refine rI_done (by kernel_rfl) ?_
          refine hK3 _ _ ?_
          refine wp_cond_false (hF.tmp 24 rfl) ?_
          refine wp_skip ?_
          have hH := hH.relab 11 (Y := .ro (.blk bp (.cells #[.string (strOfNums p.lab), .pointer (valA p.val), .map (some p.mb)] 62 (0, 0)))) rfl (by rw [hv]; rfl)
          exact hJr1 _ _ X2 (by rw [told_val hv]; exact hR) hr2 (((hF.bare.add hF 3 rfl).add hF 2 rfl).add hF 1 rfl) (hH.sub _ (sub_cons (sub_cons (sub_cons (sub_cons (sub_cons (sub_cons (sub_cons (sub_cons (sub_nil _) 33 rfl) 12 rfl) 11 rfl) 500 rfl) 777 rfl) 63 rfl) 62 rfl) 61 rfl))
      have hs_111111111111110000 : ∀ a, Fr 60 a [(0, .func (.yield l_) #[] #[]), (1, .pointer (some ⟨bn, 0, none⟩)), (2, .pointer (some ⟨bk, 0, none⟩)), (3, .pointer (some ⟨b3, 0, none⟩)), (7, .pointer (some ⟨bp, 0, none⟩)), (8, .pointer (some ⟨bp, 0, none⟩)), (9, .pointer (some ⟨bp, 1, none⟩)), (10, .pointer (some ⟨bv, 0, none⟩)), (11, .bool true), (12, .bool true), (13, .func (.yield l_) #[] #[]), (14, .string (strOfNums p.path)), (15, .pointer (some ⟨bp, 0, none⟩)), (16, .pointer (some ⟨bp, 0, none⟩)), (17, .pointer (some ⟨bp, 1, none⟩)), (18, .pointer (some ⟨bv, 0, none⟩)), (19, .pointer (some ⟨bv, 0, none⟩)), (20, .string (strOfNums v))] → W_ 4 #[true, true, true, true, true, true, true, true, true, true, true, true, true, true, false, false, false, false] a w := by
        intro a hF
        rw [hW_]
        refine rI_ready (rs := [14]) (by kernel_rfl) (by decide) (all1 ?_)
        · refine rI_op 14 hF rfl rfl rfl ((wanted_of hF rfl rfl rfl rfl).trans rfl) rfl (x_buildS (cells := #[.string (strOfNums p.path), .string (strOfNums v)]) (places := #[(0, 1), (1, 1)]) Try.underlying30 ty30 (by kernel_rfl) (by simp only [List.map_toArray, List.map_cons, List.map_nil, hF.tmp 14 rfl, hF.tmp 20 rfl] <;> rfl) rfl) ?_; clear hF; intro a hF; rw [← hW_]; exact hs_111111111111111000 a (((((((((((((((((((hF.bare.add hF 21 rfl).add hF 20 rfl).add hF 19 rfl).add hF 18 rfl).add hF 17 rfl).add hF 16 rfl).add hF 15 rfl).add hF 14 rfl).add hF 13 rfl).add hF 12 rfl).add hF 11 rfl).add hF 10 rfl).add hF 9 rfl).add hF 8 rfl).add hF 7 rfl).add hF 3 rfl).add hF 2 rfl).add hF 1 rfl).add hF 0 rfl)
      have hs_111111011111111000 : ∀ a, Fr 60 a [(0, .func (.yield l_) #[] #[]), (1, .pointer (some ⟨bn, 0, none⟩)), (2, .pointer (some ⟨bk, 0, none⟩)), (3, .pointer (some ⟨b3, 0, none⟩)), (7, .pointer (some ⟨bp, 0, none⟩)), (8, .pointer (some ⟨bp, 0, none⟩)), (9, .pointer (some ⟨bp, 1, none⟩)), (10, .pointer (some ⟨bv, 0, none⟩)), (11, .bool true), (12, .bool true), (14, .string (strOfNums p.path)), (15, .pointer (some ⟨bp, 0, none⟩)), (16, .pointer (some ⟨bp, 0, none⟩)), (17, .pointer (some ⟨bp, 1, none⟩)), (18, .pointer (some ⟨bv, 0, none⟩)), (19, .pointer (some ⟨bv, 0, none⟩)), (20, .string (strOfNums v)), (21, .agg #[.string (strOfNums p.path), .string (strOfNums v)])] → W_ 4 #[true, true, true, true, true, true, false, true, true, true, true, true, true, true, true, false, false, false] a w := by
        intro a hF
        rw [hW_]
        refine rI_ready (rs := [6]) (by kernel_rfl) (by decide) (all1 ?_)
        · refine rI_op 6 hF rfl rfl rfl ((wanted_of hF rfl rfl rfl rfl).trans rfl) rfl (x_load1 ty71 (hF.tmp 3 rfl) (blk_cell (hH.at 33 rfl) 0 rfl)) ?_; clear hF; intro a hF; rw [← hW_]; exact hs_111111111111111000 a (((((((((((((((((((hF.bare.add hF 21 rfl).add hF 20 rfl).add hF 19 rfl).add hF 18 rfl).add hF 17 rfl).add hF 16 rfl).add hF 15 rfl).add hF 14 rfl).add hF 13 rfl).add hF 12 rfl).add hF 11 rfl).add hF 10 rfl).add hF 9 rfl).add hF 8 rfl).add hF 7 rfl).add hF 3 rfl).add hF 2 rfl).add hF 1 rfl).add hF 0 rfl)
      have hs_111111111111100000 : ∀ a, Fr 60 a [(0, .func (.yield l_) #[] #[]), (1, .pointer (some ⟨bn, 0, none⟩)), (2, .pointer (some ⟨bk, 0, none⟩)), (3, .pointer (some ⟨b3, 0, none⟩)), (7, .pointer (some ⟨bp, 0, none⟩)), (8, .pointer (some ⟨bp, 0, none⟩)), (9, .pointer (some ⟨bp, 1, none⟩)), (10, .pointer (some ⟨bv, 0, none⟩)), (11, .bool true), (12, .bool true), (13, .func (.yield l_) #[] #[]), (14, .string (strOfNums p.path)), (15, .pointer (some ⟨bp, 0, none⟩)), (16, .pointer (some ⟨bp, 0, none⟩)), (17, .pointer (some ⟨bp, 1, none⟩)), (18, .pointer (some ⟨bv, 0, none⟩)), (19, .pointer (some ⟨bv, 0, none⟩))] → W_ 5 #[true, true, true, true, true, true, true, true, true, true, true, true, true, false, false, false, false, false] a w := by
        intro a hF
        rw [hW_]
        refine rI_ready (rs := [13]) (by kernel_rfl) (by decide) (all1 ?_)
        · refine rI_op 13 hF rfl rfl rfl ((wanted_of hF rfl rfl rfl rfl).trans rfl) rfl (x_load1 ty9 (hF.tmp 19 rfl) (blk_cell (hH.atro 14 rfl) 0 rfl)) ?_; clear hF; intro a hF; rw [← hW_]; exact hs_111111111111110000 a ((((((((((((((((((hF.bare.add hF 20 rfl).add hF 19 rfl).add hF 18 rfl).add hF 17 rfl).add hF 16 rfl).add hF 15 rfl).add hF 14 rfl).add hF 13 rfl).add hF 12 rfl).add hF 11 rfl).add hF 10 rfl).add hF 9 rfl).add hF 8 rfl).add hF 7 rfl).add hF 3 rfl).add hF 2 rfl).add hF 1 rfl).add hF 0 rfl)
      have hs_111111101111110000 : ∀ a, Fr 60 a [(0, .func (.yield l_) #[] #[]), (1, .pointer (some ⟨bn, 0, none⟩)), (2, .pointer (some ⟨bk, 0, none⟩)), (3, .pointer (some ⟨b3, 0, none⟩)), (7, .pointer (some ⟨bp, 0, none⟩)), (8, .pointer (some ⟨bp, 0, none⟩)), (9, .pointer (some ⟨bp, 1, none⟩)), (10, .pointer (some ⟨bv, 0, none⟩)), (11, .bool true), (12, .bool true), (13, .func (.yield l_) #[] #[]), (15, .pointer (some ⟨bp, 0, none⟩)), (16, .pointer (some ⟨bp, 0, none⟩)), (17, .pointer (some ⟨bp, 1, none⟩)), (18, .pointer (some ⟨bv, 0, none⟩)), (19, .pointer (some ⟨bv, 0, none⟩)), (20, .string (strOfNums v))] → W_ 5 #[true, true, true, true, true, true, true, false, true, true, true, true, true, true, false, false, false, false] a w := by
        intro a hF
        rw [hW_]
        refine rI_ready (rs := [7]) (by kernel_rfl) (by decide) (all1 ?_)
        · refine rI_op 7 hF rfl rfl rfl ((wanted_of hF rfl rfl rfl rfl).trans rfl) rfl (x_load1 ty9 (hF.tmp 2 rfl) (blk_cell (hH.atro 62 rfl) 0 rfl)) ?_; clear hF; intro a hF; rw [← hW_]; exact hs_111111111111110000 a ((((((((((((((((((hF.bare.add hF 20 rfl).add hF 19 rfl).add hF 18 rfl).add hF 17 rfl).add hF 16 rfl).add hF 15 rfl).add hF 14 rfl).add hF 13 rfl).add hF 12 rfl).add hF 11 rfl).add hF 10 rfl).add hF 9 rfl).add hF 8 rfl).add hF 7 rfl).add hF 3 rfl).add hF 2 rfl).add hF 1 rfl).add hF 0 rfl)
      have hs_111111011111110000 : ∀ a, Fr 60 a [(0, .func (.yield l_) #[] #[]), (1, .pointer (some ⟨bn, 0, none⟩)), (2, .pointer (some ⟨bk, 0, none⟩)), (3, .pointer (some ⟨b3, 0, none⟩)), (7, .pointer (some ⟨bp, 0, none⟩)), (8, .pointer (some ⟨bp, 0, none⟩)), (9, .pointer (some ⟨bp, 1, none⟩)), (10, .pointer (some ⟨bv, 0, none⟩)), (11, .bool true), (12, .bool true), (14, .string (strOfNums p.path)), (15, .pointer (some ⟨bp, 0, none⟩)), (16, .pointer (some ⟨bp, 0, none⟩)), (17, .pointer (some ⟨bp, 1, none⟩)), (18, .pointer (some ⟨bv, 0, none⟩)), (19, .pointer (some ⟨bv, 0, none⟩)), (20, .string (strOfNums v))] → W_ 5 #[true, true, true, true, true, true, false, true, true, true, true, true, true, true, false, false, false, false] a w := by
        intro a hF
        rw [hW_]
        refine rI_ready (rs := [6, 14]) (by kernel_rfl) (by decide) (all2 ?_ ?_)
        · refine rI_op 6 hF rfl rfl rfl ((wanted_of hF rfl rfl rfl rfl).trans rfl) rfl (x_load1 ty71 (hF.tmp 3 rfl) (blk_cell (hH.at 33 rfl) 0 rfl)) ?_; clear hF; intro a hF; rw [← hW_]; exact hs_111111111111110000 a ((((((((((((((((((hF.bare.add hF 20 rfl).add hF 19 rfl).add hF 18 rfl).add hF 17 rfl).add hF 16 rfl).add hF 15 rfl).add hF 14 rfl).add hF 13 rfl).add hF 12 rfl).add hF 11 rfl).add hF 10 rfl).add hF 9 rfl).add hF 8 rfl).add hF 7 rfl).add hF 3 rfl).add hF 2 rfl).add hF 1 rfl).add hF 0 rfl)
        · refine rI_op 14 hF rfl rfl rfl ((wanted_of hF rfl rfl rfl rfl).trans rfl) rfl (x_buildS (cells := #[.string (strOfNums p.path), .string (strOfNums v)]) (places := #[(0, 1), (1, 1)]) Try.underlying30 ty30 (by kernel_rfl) (by simp only [List.map_toArray, List.map_cons, List.map_nil, hF.tmp 14 rfl, hF.tmp 20 rfl] <;> rfl) rfl) ?_; clear hF; intro a hF; rw [← hW_]; exact hs_111111011111111000 a ((((((((((((((((((hF.bare.add hF 21 rfl).add hF 20 rfl).add hF 19 rfl).add hF 18 rfl).add hF 17 rfl).add hF 16 rfl).add hF 15 rfl).add hF 14 rfl).add hF 12 rfl).add hF 11 rfl).add hF 10 rfl).add hF 9 rfl).add hF 8 rfl).add hF 7 rfl).add hF 3 rfl).add hF 2 rfl).add hF 1 rfl).add hF 0 rfl)
      have hs_111111111111000000 : ∀ a, Fr 60 a [(0, .func (.yield l_) #[] #[]), (1, .pointer (some ⟨bn, 0, none⟩)), (2, .pointer (some ⟨bk, 0, none⟩)), (3, .pointer (some ⟨b3, 0, none⟩)), (7, .pointer (some ⟨bp, 0, none⟩)), (8, .pointer (some ⟨bp, 0, none⟩)), (9, .pointer (some ⟨bp, 1, none⟩)), (10, .pointer (some ⟨bv, 0, none⟩)), (11, .bool true), (12, .bool true), (13, .func (.yield l_) #[] #[]), (14, .string (strOfNums p.path)), (15, .pointer (some ⟨bp, 0, none⟩)), (16, .pointer (some ⟨bp, 0, none⟩)), (17, .pointer (some ⟨bp, 1, none⟩)), (18, .pointer (some ⟨bv, 0, none⟩))] → W_ 6 #[true, true, true, true, true, true, true, true, true, true, true, true, false, false, false, false, false, false] a w := by
        intro a hF
        rw [hW_]
        refine rI_ready (rs := [12]) (by kernel_rfl) (by decide) (all1 ?_)
        · refine rI_op 12 hF rfl rfl rfl ((wanted_of hF rfl rfl rfl rfl).trans rfl) rfl (x_nil (hF.tmp 18 rfl)) ?_; clear hF; intro a hF; rw [← hW_]; exact hs_111111111111100000 a (((((((((((((((((hF.bare.add hF 19 rfl).add hF 18 rfl).add hF 17 rfl).add hF 16 rfl).add hF 15 rfl).add hF 14 rfl).add hF 13 rfl).add hF 12 rfl).add hF 11 rfl).add hF 10 rfl).add hF 9 rfl).add hF 8 rfl).add hF 7 rfl).add hF 3 rfl).add hF 2 rfl).add hF 1 rfl).add hF 0 rfl)
      have hs_111111101111100000 : ∀ a, Fr 60 a [(0, .func (.yield l_) #[] #[]), (1, .pointer (some ⟨bn, 0, none⟩)), (2, .pointer (some ⟨bk, 0, none⟩)), (3, .pointer (some ⟨b3, 0, none⟩)), (7, .pointer (some ⟨bp, 0, none⟩)), (8, .pointer (some ⟨bp, 0, none⟩)), (9, .pointer (some ⟨bp, 1, none⟩)), (10, .pointer (some ⟨bv, 0, none⟩)), (11, .bool true), (12, .bool true), (13, .func (.yield l_) #[] #[]), (15, .pointer (some ⟨bp, 0, none⟩)), (16, .pointer (some ⟨bp, 0, none⟩)), (17, .pointer (some ⟨bp, 1, none⟩)), (18, .pointer (some ⟨bv, 0, none⟩)), (19, .pointer (some ⟨bv, 0, none⟩))] → W_ 6 #[true, true, true, true, true, true, true, false, true, true, true, true, true, false, false, false, false, false] a w := by
        intro a hF
        rw [hW_]
        refine rI_ready (rs := [7, 13]) (by kernel_rfl) (by decide) (all2 ?_ ?_)
        · refine rI_op 7 hF rfl rfl rfl ((wanted_of hF rfl rfl rfl rfl).trans rfl) rfl (x_load1 ty9 (hF.tmp 2 rfl) (blk_cell (hH.atro 62 rfl) 0 rfl)) ?_; clear hF; intro a hF; rw [← hW_]; exact hs_111111111111100000 a (((((((((((((((((hF.bare.add hF 19 rfl).add hF 18 rfl).add hF 17 rfl).add hF 16 rfl).add hF 15 rfl).add hF 14 rfl).add hF 13 rfl).add hF 12 rfl).add hF 11 rfl).add hF 10 rfl).add hF 9 rfl).add hF 8 rfl).add hF 7 rfl).add hF 3 rfl).add hF 2 rfl).add hF 1 rfl).add hF 0 rfl)
        · refine rI_op 13 hF rfl rfl rfl ((wanted_of hF rfl rfl rfl rfl).trans rfl) rfl (x_load1 ty9 (hF.tmp 19 rfl) (blk_cell (hH.atro 14 rfl) 0 rfl)) ?_; clear hF; intro a hF; rw [← hW_]; exact hs_111111101111110000 a (((((((((((((((((hF.bare.add hF 20 rfl).add hF 19 rfl).add hF 18 rfl).add hF 17 rfl).add hF 16 rfl).add hF 15 rfl).add hF 13 rfl).add hF 12 rfl).add hF 11 rfl).add hF 10 rfl).add hF 9 rfl).add hF 8 rfl).add hF 7 rfl).add hF 3 rfl).add hF 2 rfl).add hF 1 rfl).add hF 0 rfl)
      have hs_111111011111100000 : ∀ a, Fr 60 a [(0, .func (.yield l_) #[] #[]), (1, .pointer (some ⟨bn, 0, none⟩)), (2, .pointer (some ⟨bk, 0, none⟩)), (3, .pointer (some ⟨b3, 0, none⟩)), (7, .pointer (some ⟨bp, 0, none⟩)), (8, .pointer (some ⟨bp, 0, none⟩)), (9, .pointer (some ⟨bp, 1, none⟩)), (10, .pointer (some ⟨bv, 0, none⟩)), (11, .bool true), (12, .bool true), (14, .string (strOfNums p.path)), (15, .pointer (some ⟨bp, 0, none⟩)), (16, .pointer (some ⟨bp, 0, none⟩)), (17, .pointer (some ⟨bp, 1, none⟩)), (18, .pointer (some ⟨bv, 0, none⟩)), (19, .pointer (some ⟨bv, 0, none⟩))] → W_ 6 #[true, true, true, true, true, true, false, true, true, true, true, true, true, false, false, false, false, false] a w := by
        intro a hF
        rw [hW_]
        refine rI_ready (rs := [6, 13]) (by kernel_rfl) (by decide) (all2 ?_ ?_)
        · refine rI_op 6 hF rfl rfl rfl ((wanted_of hF rfl rfl rfl rfl).trans rfl) rfl (x_load1 ty71 (hF.tmp 3 rfl) (blk_cell (hH.at 33 rfl) 0 rfl)) ?_; clear hF; intro a hF; rw [← hW_]; exact hs_111111111111100000 a (((((((((((((((((hF.bare.add hF 19 rfl).add hF 18 rfl).add hF 17 rfl).add hF 16 rfl).add hF 15 rfl).add hF 14 rfl).add hF 13 rfl).add hF 12 rfl).add hF 11 rfl).add hF 10 rfl).add hF 9 rfl).add hF 8 rfl).add hF 7 rfl).add hF 3 rfl).add hF 2 rfl).add hF 1 rfl).add hF 0 rfl)
        · refine rI_op 13 hF rfl rfl rfl ((wanted_of hF rfl rfl rfl rfl).trans rfl) rfl (x_load1 ty9 (hF.tmp 19 rfl) (blk_cell (hH.atro 14 rfl) 0 rfl)) ?_; clear hF; intro a hF; rw [← hW_]; exact hs_111111011111110000 a (((((((((((((((((hF.bare.add hF 20 rfl).add hF 19 rfl).add hF 18 rfl).add hF 17 rfl).add hF 16 rfl).add hF 15 rfl).add hF 14 rfl).add hF 12 rfl).add hF 11 rfl).add hF 10 rfl).add hF 9 rfl).add hF 8 rfl).add hF 7 rfl).add hF 3 rfl).add hF 2 rfl).add hF 1 rfl).add hF 0 rfl)
      have hs_111111001111110000 : ∀ a, Fr 60 a [(0, .func (.yield l_) #[] #[]), (1, .pointer (some ⟨bn, 0, none⟩)), (2, .pointer (some ⟨bk, 0, none⟩)), (3, .pointer (some ⟨b3, 0, none⟩)), (7, .pointer (some ⟨bp, 0, none⟩)), (8, .pointer (some ⟨bp, 0, none⟩)), (9, .pointer (some ⟨bp, 1, none⟩)), (10, .pointer (some ⟨bv, 0, none⟩)), (11, .bool true), (12, .bool true), (15, .pointer (some ⟨bp, 0, none⟩)), (16, .pointer (some ⟨bp, 0, none⟩)), (17, .pointer (some ⟨bp, 1, none⟩)), (18, .pointer (some ⟨bv, 0, none⟩)), (19, .pointer (some ⟨bv, 0, none⟩)), (20, .string (strOfNums v))] → W_ 6 #[true, true, true, true, true, true, false, false, true, true, true, true, true, true, false, false, false, false] a w := by
        intro a hF
        rw [hW_]
        refine rI_ready (rs := [6, 7]) (by kernel_rfl) (by decide) (all2 ?_ ?_)
        · refine rI_op 6 hF rfl rfl rfl ((wanted_of hF rfl rfl rfl rfl).trans rfl) rfl (x_load1 ty71 (hF.tmp 3 rfl) (blk_cell (hH.at 33 rfl) 0 rfl)) ?_; clear hF; intro a hF; rw [← hW_]; exact hs_111111101111110000 a (((((((((((((((((hF.bare.add hF 20 rfl).add hF 19 rfl).add hF 18 rfl).add hF 17 rfl).add hF 16 rfl).add hF 15 rfl).add hF 13 rfl).add hF 12 rfl).add hF 11 rfl).add hF 10 rfl).add hF 9 rfl).add hF 8 rfl).add hF 7 rfl).add hF 3 rfl).add hF 2 rfl).add hF 1 rfl).add hF 0 rfl)
        · refine rI_op 7 hF rfl rfl rfl ((wanted_of hF rfl rfl rfl rfl).trans rfl) rfl (x_load1 ty9 (hF.tmp 2 rfl) (blk_cell (hH.atro 62 rfl) 0 rfl)) ?_; clear hF; intro a hF; rw [← hW_]; exact hs_111111011111110000 a (((((((((((((((((hF.bare.add hF 20 rfl).add hF 19 rfl).add hF 18 rfl).add hF 17 rfl).add hF 16 rfl).add hF 15 rfl).add hF 14 rfl).add hF 12 rfl).add hF 11 rfl).add hF 10 rfl).add hF 9 rfl).add hF 8 rfl).add hF 7 rfl).add hF 3 rfl).add hF 2 rfl).add hF 1 rfl).add hF 0 rfl)
      have hs_111111111110000000 : ∀ a, Fr 60 a [(0, .func (.yield l_) #[] #[]), (1, .pointer (some ⟨bn, 0, none⟩)), (2, .pointer (some ⟨bk, 0, none⟩)), (3, .pointer (some ⟨b3, 0, none⟩)), (7, .pointer (some ⟨bp, 0, none⟩)), (8, .pointer (some ⟨bp, 0, none⟩)), (9, .pointer (some ⟨bp, 1, none⟩)), (10, .pointer (some ⟨bv, 0, none⟩)), (11, .bool true), (12, .bool true), (13, .func (.yield l_) #[] #[]), (14, .string (strOfNums p.path)), (15, .pointer (some ⟨bp, 0, none⟩)), (16, .pointer (some ⟨bp, 0, none⟩)), (17, .pointer (some ⟨bp, 1, none⟩))] → W_ 7 #[true, true, true, true, true, true, true, true, true, true, true, false, false, false, false, false, false, false] a w := by
        intro a hF
        rw [hW_]
        refine rI_ready (rs := [11]) (by kernel_rfl) (by decide) (all1 ?_)
        · refine rI_op 11 hF rfl rfl rfl ((wanted_of hF rfl rfl rfl rfl).trans rfl) rfl (x_load1 ty59 (hF.tmp 17 rfl) (blk_cell (hH.atro 11 rfl) 1 rfl)) ?_; clear hF; intro a hF; rw [← hW_]; exact hs_111111111111000000 a ((((((((((((((((hF.bare.add hF 18 rfl).add hF 17 rfl).add hF 16 rfl).add hF 15 rfl).add hF 14 rfl).add hF 13 rfl).add hF 12 rfl).add hF 11 rfl).add hF 10 rfl).add hF 9 rfl).add hF 8 rfl).add hF 7 rfl).add hF 3 rfl).add hF 2 rfl).add hF 1 rfl).add hF 0 rfl)
      have hs_111111101111000000 : ∀ a, Fr 60 a [(0, .func (.yield l_) #[] #[]), (1, .pointer (some ⟨bn, 0, none⟩)), (2, .pointer (some ⟨bk, 0, none⟩)), (3, .pointer (some ⟨b3, 0, none⟩)), (7, .pointer (some ⟨bp, 0, none⟩)), (8, .pointer (some ⟨bp, 0, none⟩)), (9, .pointer (some ⟨bp, 1, none⟩)), (10, .pointer (some ⟨bv, 0, none⟩)), (11, .bool true), (12, .bool true), (13, .func (.yield l_) #[] #[]), (15, .pointer (some ⟨bp, 0, none⟩)), (16, .pointer (some ⟨bp, 0, none⟩)), (17, .pointer (some ⟨bp, 1, none⟩)), (18, .pointer (some ⟨bv, 0, none⟩))] → W_ 7 #[true, true, true, true, true, true, true, false, true, true, true, true, false, false, false, false, false, false] a w := by
        intro a hF
        rw [hW_]
        refine rI_ready (rs := [7, 12]) (by kernel_rfl) (by decide) (all2 ?_ ?_)
        · refine rI_op 7 hF rfl rfl rfl ((wanted_of hF rfl rfl rfl rfl).trans rfl) rfl (x_load1 ty9 (hF.tmp 2 rfl) (blk_cell (hH.atro 62 rfl) 0 rfl)) ?_; clear hF; intro a hF; rw [← hW_]; exact hs_111111111111000000 a ((((((((((((((((hF.bare.add hF 18 rfl).add hF 17 rfl).add hF 16 rfl).add hF 15 rfl).add hF 14 rfl).add hF 13 rfl).add hF 12 rfl).add hF 11 rfl).add hF 10 rfl).add hF 9 rfl).add hF 8 rfl).add hF 7 rfl).add hF 3 rfl).add hF 2 rfl).add hF 1 rfl).add hF 0 rfl)
        · refine rI_op 12 hF rfl rfl rfl ((wanted_of hF rfl rfl rfl rfl).trans rfl) rfl (x_nil (hF.tmp 18 rfl)) ?_; clear hF; intro a hF; rw [← hW_]; exact hs_111111101111100000 a ((((((((((((((((hF.bare.add hF 19 rfl).add hF 18 rfl).add hF 17 rfl).add hF 16 rfl).add hF 15 rfl).add hF 13 rfl).add hF 12 rfl).add hF 11 rfl).add hF 10 rfl).add hF 9 rfl).add hF 8 rfl).add hF 7 rfl).add hF 3 rfl).add hF 2 rfl).add hF 1 rfl).add hF 0 rfl)
      have hs_111111011111000000 : ∀ a, Fr 60 a [(0, .func (.yield l_) #[] #[]), (1, .pointer (some ⟨bn, 0, none⟩)), (2, .pointer (some ⟨bk, 0, none⟩)), (3, .pointer (some ⟨b3, 0, none⟩)), (7, .pointer (some ⟨bp, 0, none⟩)), (8, .pointer (some ⟨bp, 0, none⟩)), (9, .pointer (some ⟨bp, 1, none⟩)), (10, .pointer (some ⟨bv, 0, none⟩)), (11, .bool true), (12, .bool true), (14, .string (strOfNums p.path)), (15, .pointer (some ⟨bp, 0, none⟩)), (16, .pointer (some ⟨bp, 0, none⟩)), (17, .pointer (some ⟨bp, 1, none⟩)), (18, .pointer (some ⟨bv, 0, none⟩))] → W_ 7 #[true, true, true, true, true, true, false, true, true, true, true, true, false, false, false, false, false, false] a w := by
        intro a hF
        rw [hW_]
        refine rI_ready (rs := [6, 12]) (by kernel_rfl) (by decide) (all2 ?_ ?_)
        · refine rI_op 6 hF rfl rfl rfl ((wanted_of hF rfl rfl rfl rfl).trans rfl) rfl (x_load1 ty71 (hF.tmp 3 rfl) (blk_cell (hH.at 33 rfl) 0 rfl)) ?_; clear hF; intro a hF; rw [← hW_]; exact hs_111111111111000000 a ((((((((((((((((hF.bare.add hF 18 rfl).add hF 17 rfl).add hF 16 rfl).add hF 15 rfl).add hF 14 rfl).add hF 13 rfl).add hF 12 rfl).add hF 11 rfl).add hF 10 rfl).add hF 9 rfl).add hF 8 rfl).add hF 7 rfl).add hF 3 rfl).add hF 2 rfl).add hF 1 rfl).add hF 0 rfl)
        · refine rI_op 12 hF rfl rfl rfl ((wanted_of hF rfl rfl rfl rfl).trans rfl) rfl (x_nil (hF.tmp 18 rfl)) ?_; clear hF; intro a hF; rw [← hW_]; exact hs_111111011111100000 a ((((((((((((((((hF.bare.add hF 19 rfl).add hF 18 rfl).add hF 17 rfl).add hF 16 rfl).add hF 15 rfl).add hF 14 rfl).add hF 12 rfl).add hF 11 rfl).add hF 10 rfl).add hF 9 rfl).add hF 8 rfl).add hF 7 rfl).add hF 3 rfl).add hF 2 rfl).add hF 1 rfl).add hF 0 rfl)
      have hs_111111001111100000 : ∀ a, Fr 60 a [(0, .func (.yield l_) #[] #[]), (1, .pointer (some ⟨bn, 0, none⟩)), (2, .pointer (some ⟨bk, 0, none⟩)), (3, .pointer (some ⟨b3, 0, none⟩)), (7, .pointer (some ⟨bp, 0, none⟩)), (8, .pointer (some ⟨bp, 0, none⟩)), (9, .pointer (some ⟨bp, 1, none⟩)), (10, .pointer (some ⟨bv, 0, none⟩)), (11, .bool true), (12, .bool true), (15, .pointer (some ⟨bp, 0, none⟩)), (16, .pointer (some ⟨bp, 0, none⟩)), (17, .pointer (some ⟨bp, 1, none⟩)), (18, .pointer (some ⟨bv, 0, none⟩)), (19, .pointer (some ⟨bv, 0, none⟩))] → W_ 7 #[true, true, true, true, true, true, false, false, true, true, true, true, true, false, false, false, false, false] a w := by
        intro a hF
        rw [hW_]
        refine rI_ready (rs := [6, 7, 13]) (by kernel_rfl) (by decide) (all3 ?_ ?_ ?_)
        · refine rI_op 6 hF rfl rfl rfl ((wanted_of hF rfl rfl rfl rfl).trans rfl) rfl (x_load1 ty71 (hF.tmp 3 rfl) (blk_cell (hH.at 33 rfl) 0 rfl)) ?_; clear hF; intro a hF; rw [← hW_]; exact hs_111111101111100000 a ((((((((((((((((hF.bare.add hF 19 rfl).add hF 18 rfl).add hF 17 rfl).add hF 16 rfl).add hF 15 rfl).add hF 13 rfl).add hF 12 rfl).add hF 11 rfl).add hF 10 rfl).add hF 9 rfl).add hF 8 rfl).add hF 7 rfl).add hF 3 rfl).add hF 2 rfl).add hF 1 rfl).add hF 0 rfl)
        · refine rI_op 7 hF rfl rfl rfl ((wanted_of hF rfl rfl rfl rfl).trans rfl) rfl (x_load1 ty9 (hF.tmp 2 rfl) (blk_cell (hH.atro 62 rfl) 0 rfl)) ?_; clear hF; intro a hF; rw [← hW_]; exact hs_111111011111100000 a ((((((((((((((((hF.bare.add hF 19 rfl).add hF 18 rfl).add hF 17 rfl).add hF 16 rfl).add hF 15 rfl).add hF 14 rfl).add hF 12 rfl).add hF 11 rfl).add hF 10 rfl).add hF 9 rfl).add hF 8 rfl).add hF 7 rfl).add hF 3 rfl).add hF 2 rfl).add hF 1 rfl).add hF 0 rfl)
        · refine rI_op 13 hF rfl rfl rfl ((wanted_of hF rfl rfl rfl rfl).trans rfl) rfl (x_load1 ty9 (hF.tmp 19 rfl) (blk_cell (hH.atro 14 rfl) 0 rfl)) ?_; clear hF; intro a hF; rw [← hW_]; exact hs_111111001111110000 a ((((((((((((((((hF.bare.add hF 20 rfl).add hF 19 rfl).add hF 18 rfl).add hF 17 rfl).add hF 16 rfl).add hF 15 rfl).add hF 12 rfl).add hF 11 rfl).add hF 10 rfl).add hF 9 rfl).add hF 8 rfl).add hF 7 rfl).add hF 3 rfl).add hF 2 rfl).add hF 1 rfl).add hF 0 rfl)
      have hs_111111111100000000 : ∀ a, Fr 60 a [(0, .func (.yield l_) #[] #[]), (1, .pointer (some ⟨bn, 0, none⟩)), (2, .pointer (some ⟨bk, 0, none⟩)), (3, .pointer (some ⟨b3, 0, none⟩)), (7, .pointer (some ⟨bp, 0, none⟩)), (8, .pointer (some ⟨bp, 0, none⟩)), (9, .pointer (some ⟨bp, 1, none⟩)), (10, .pointer (some ⟨bv, 0, none⟩)), (11, .bool true), (12, .bool true), (13, .func (.yield l_) #[] #[]), (14, .string (strOfNums p.path)), (15, .pointer (some ⟨bp, 0, none⟩)), (16, .pointer (some ⟨bp, 0, none⟩))] → W_ 8 #[true, true, true, true, true, true, true, true, true, true, false, false, false, false, false, false, false, false] a w := by
        intro a hF
        rw [hW_]
        refine rI_ready (rs := [10]) (by kernel_rfl) (by decide) (all1 ?_)
        · refine rI_op 10 hF rfl rfl rfl ((wanted_of hF rfl rfl rfl rfl).trans rfl) rfl (x_faddr Try.underlying62 rfl ty59 (by decide) (hF.tmp 16 rfl) rfl) ?_; clear hF; intro a hF; rw [← hW_]; exact hs_111111111110000000 a (((((((((((((((hF.bare.add hF 17 rfl).add hF 16 rfl).add hF 15 rfl).add hF 14 rfl).add hF 13 rfl).add hF 12 rfl).add hF 11 rfl).add hF 10 rfl).add hF 9 rfl).add hF 8 rfl).add hF 7 rfl).add hF 3 rfl).add hF 2 rfl).add hF 1 rfl).add hF 0 rfl)
      have hs_111111101110000000 : ∀ a, Fr 60 a [(0, .func (.yield l_) #[] #[]), (1, .pointer (some ⟨bn, 0, none⟩)), (2, .pointer (some ⟨bk, 0, none⟩)), (3, .pointer (some ⟨b3, 0, none⟩)), (7, .pointer (some ⟨bp, 0, none⟩)), (8, .pointer (some ⟨bp, 0, none⟩)), (9, .pointer (some ⟨bp, 1, none⟩)), (10, .pointer (some ⟨bv, 0, none⟩)), (11, .bool true), (12, .bool true), (13, .func (.yield l_) #[] #[]), (15, .pointer (some ⟨bp, 0, none⟩)), (16, .pointer (some ⟨bp, 0, none⟩)), (17, .pointer (some ⟨bp, 1, none⟩))] → W_ 8 #[true, true, true, true, true, true, true, false, true, true, true, false, false, false, false, false, false, false] a w := by
        intro a hF
        rw [hW_]
        refine rI_ready (rs := [7, 11]) (by kernel_rfl) (by decide) (all2 ?_ ?_)
        · refine rI_op 7 hF rfl rfl rfl ((wanted_of hF rfl rfl rfl rfl).trans rfl) rfl (x_load1 ty9 (hF.tmp 2 rfl) (blk_cell (hH.atro 62 rfl) 0 rfl)) ?_; clear hF; intro a hF; rw [← hW_]; exact hs_111111111110000000 a (((((((((((((((hF.bare.add hF 17 rfl).add hF 16 rfl).add hF 15 rfl).add hF 14 rfl).add hF 13 rfl).add hF 12 rfl).add hF 11 rfl).add hF 10 rfl).add hF 9 rfl).add hF 8 rfl).add hF 7 rfl).add hF 3 rfl).add hF 2 rfl).add hF 1 rfl).add hF 0 rfl)
        · refine rI_op 11 hF rfl rfl rfl ((wanted_of hF rfl rfl rfl rfl).trans rfl) rfl (x_load1 ty59 (hF.tmp 17 rfl) (blk_cell (hH.atro 11 rfl) 1 rfl)) ?_; clear hF; intro a hF; rw [← hW_]; exact hs_111111101111000000 a (((((((((((((((hF.bare.add hF 18 rfl).add hF 17 rfl).add hF 16 rfl).add hF 15 rfl).add hF 13 rfl).add hF 12 rfl).add hF 11 rfl).add hF 10 rfl).add hF 9 rfl).add hF 8 rfl).add hF 7 rfl).add hF 3 rfl).add hF 2 rfl).add hF 1 rfl).add hF 0 rfl)
      have hs_111111011110000000 : ∀ a, Fr 60 a [(0, .func (.yield l_) #[] #[]), (1, .pointer (some ⟨bn, 0, none⟩)), (2, .pointer (some ⟨bk, 0, none⟩)), (3, .pointer (some ⟨b3, 0, none⟩)), (7, .pointer (some ⟨bp, 0, none⟩)), (8, .pointer (some ⟨bp, 0, none⟩)), (9, .pointer (some ⟨bp, 1, none⟩)), (10, .pointer (some ⟨bv, 0, none⟩)), (11, .bool true), (12, .bool true), (14, .string (strOfNums p.path)), (15, .pointer (some ⟨bp, 0, none⟩)), (16, .pointer (some ⟨bp, 0, none⟩)), (17, .pointer (some ⟨bp, 1, none⟩))] → W_ 8 #[true, true, true, true, true, true, false, true, true, true, true, false, false, false, false, false, false, false] a w := by
        intro a hF
        rw [hW_]
        refine rI_ready (rs := [6, 11]) (by kernel_rfl) (by decide) (all2 ?_ ?_)
        · refine rI_op 6 hF rfl rfl rfl ((wanted_of hF rfl rfl rfl rfl).trans rfl) rfl (x_load1 ty71 (hF.tmp 3 rfl) (blk_cell (hH.at 33 rfl) 0 rfl)) ?_; clear hF; intro a hF; rw [← hW_]; exact hs_111111111110000000 a (((((((((((((((hF.bare.add hF 17 rfl).add hF 16 rfl).add hF 15 rfl).add hF 14 rfl).add hF 13 rfl).add hF 12 rfl).add hF 11 rfl).add hF 10 rfl).add hF 9 rfl).add hF 8 rfl).add hF 7 rfl).add hF 3 rfl).add hF 2 rfl).add hF 1 rfl).add hF 0 rfl)
        · refine rI_op 11 hF rfl rfl rfl ((wanted_of hF rfl rfl rfl rfl).trans rfl) rfl (x_load1 ty59 (hF.tmp 17 rfl) (blk_cell (hH.atro 11 rfl) 1 rfl)) ?_; clear hF; intro a hF; rw [← hW_]; exact hs_111111011111000000 a (((((((((((((((hF.bare.add hF 18 rfl).add hF 17 rfl).add hF 16 rfl).add hF 15 rfl).add hF 14 rfl).add hF 12 rfl).add hF 11 rfl).add hF 10 rfl).add hF 9 rfl).add hF 8 rfl).add hF 7 rfl).add hF 3 rfl).add hF 2 rfl).add hF 1 rfl).add hF 0 rfl)
      have hs_111111001111000000 : ∀ a, Fr 60 a [(0, .func (.yield l_) #[] #[]), (1, .pointer (some ⟨bn, 0, none⟩)), (2, .pointer (some ⟨bk, 0, none⟩)), (3, .pointer (some ⟨b3, 0, none⟩)), (7, .pointer (some ⟨bp, 0, none⟩)), (8, .pointer (some ⟨bp, 0, none⟩)), (9, .pointer (some ⟨bp, 1, none⟩)), (10, .pointer (some ⟨bv, 0, none⟩)), (11, .bool true), (12, .bool true), (15, .pointer (some ⟨bp, 0, none⟩)), (16, .pointer (some ⟨bp, 0, none⟩)), (17, .pointer (some ⟨bp, 1, none⟩)), (18, .pointer (some ⟨bv, 0, none⟩))] → W_ 8 #[true, true, true, true, true, true, false, false, true, true, true, true, false, false, false, false, false, false] a w := by
        intro a hF
        rw [hW_]
        refine rI_ready (rs := [6, 7, 12]) (by kernel_rfl) (by decide) (all3 ?_ ?_ ?_)
        · refine rI_op 6 hF rfl rfl rfl ((wanted_of hF rfl rfl rfl rfl).trans rfl) rfl (x_load1 ty71 (hF.tmp 3 rfl) (blk_cell (hH.at 33 rfl) 0 rfl)) ?_; clear hF; intro a hF; rw [← hW_]; exact hs_111111101111000000 a (((((((((((((((hF.bare.add hF 18 rfl).add hF 17 rfl).add hF 16 rfl).add hF 15 rfl).add hF 13 rfl).add hF 12 rfl).add hF 11 rfl).add hF 10 rfl).add hF 9 rfl).add hF 8 rfl).add hF 7 rfl).add hF 3 rfl).add hF 2 rfl).add hF 1 rfl).add hF 0 rfl)
        · refine rI_op 7 hF rfl rfl rfl ((wanted_of hF rfl rfl rfl rfl).trans rfl) rfl (x_load1 ty9 (hF.tmp 2 rfl) (blk_cell (hH.atro 62 rfl) 0 rfl)) ?_; clear hF; intro a hF; rw [← hW_]; exact hs_111111011111000000 a (((((((((((((((hF.bare.add hF 18 rfl).add hF 17 rfl).add hF 16 rfl).add hF 15 rfl).add hF 14 rfl).add hF 12 rfl).add hF 11 rfl).add hF 10 rfl).add hF 9 rfl).add hF 8 rfl).add hF 7 rfl).add hF 3 rfl).add hF 2 rfl).add hF 1 rfl).add hF 0 rfl)
        · refine rI_op 12 hF rfl rfl rfl ((wanted_of hF rfl rfl rfl rfl).trans rfl) rfl (x_nil (hF.tmp 18 rfl)) ?_; clear hF; intro a hF; rw [← hW_]; exact hs_111111001111100000 a (((((((((((((((hF.bare.add hF 19 rfl).add hF 18 rfl).add hF 17 rfl).add hF 16 rfl).add hF 15 rfl).add hF 12 rfl).add hF 11 rfl).add hF 10 rfl).add hF 9 rfl).add hF 8 rfl).add hF 7 rfl).add hF 3 rfl).add hF 2 rfl).add hF 1 rfl).add hF 0 rfl)
      have hs_111111111000000000 : ∀ a, Fr 60 a [(0, .func (.yield l_) #[] #[]), (1, .pointer (some ⟨bn, 0, none⟩)), (2, .pointer (some ⟨bk, 0, none⟩)), (3, .pointer (some ⟨b3, 0, none⟩)), (7, .pointer (some ⟨bp, 0, none⟩)), (8, .pointer (some ⟨bp, 0, none⟩)), (9, .pointer (some ⟨bp, 1, none⟩)), (10, .pointer (some ⟨bv, 0, none⟩)), (11, .bool true), (12, .bool true), (13, .func (.yield l_) #[] #[]), (14, .string (strOfNums p.path)), (15, .pointer (some ⟨bp, 0, none⟩))] → W_ 9 #[true, true, true, true, true, true, true, true, true, false, false, false, false, false, false, false, false, false] a w := by
        intro a hF
        rw [hW_]
        refine rI_ready (rs := [9]) (by kernel_rfl) (by decide) (all1 ?_)
        · refine rI_op 9 hF rfl rfl rfl ((wanted_of hF rfl rfl rfl rfl).trans rfl) rfl (x_nil (hF.tmp 15 rfl)) ?_; clear hF; intro a hF; rw [← hW_]; exact hs_111111111100000000 a ((((((((((((((hF.bare.add hF 16 rfl).add hF 15 rfl).add hF 14 rfl).add hF 13 rfl).add hF 12 rfl).add hF 11 rfl).add hF 10 rfl).add hF 9 rfl).add hF 8 rfl).add hF 7 rfl).add hF 3 rfl).add hF 2 rfl).add hF 1 rfl).add hF 0 rfl)
      have hs_111111101100000000 : ∀ a, Fr 60 a [(0, .func (.yield l_) #[] #[]), (1, .pointer (some ⟨bn, 0, none⟩)), (2, .pointer (some ⟨bk, 0, none⟩)), (3, .pointer (some ⟨b3, 0, none⟩)), (7, .pointer (some ⟨bp, 0, none⟩)), (8, .pointer (some ⟨bp, 0, none⟩)), (9, .pointer (some ⟨bp, 1, none⟩)), (10, .pointer (some ⟨bv, 0, none⟩)), (11, .bool true), (12, .bool true), (13, .func (.yield l_) #[] #[]), (15, .pointer (some ⟨bp, 0, none⟩)), (16, .pointer (some ⟨bp, 0, none⟩))] → W_ 9 #[true, true, true, true, true, true, true, false, true, true, false, false, false, false, false, false, false, false] a w := by
        intro a hF
        rw [hW_]
        refine rI_ready (rs := [7, 10]) (by kernel_rfl) (by decide) (all2 ?_ ?_)
        · refine rI_op 7 hF rfl rfl rfl ((wanted_of hF rfl rfl rfl rfl).trans rfl) rfl (x_load1 ty9 (hF.tmp 2 rfl) (blk_cell (hH.atro 62 rfl) 0 rfl)) ?_; clear hF; intro a hF; rw [← hW_]; exact hs_111111111100000000 a ((((((((((((((hF.bare.add hF 16 rfl).add hF 15 rfl).add hF 14 rfl).add hF 13 rfl).add hF 12 rfl).add hF 11 rfl).add hF 10 rfl).add hF 9 rfl).add hF 8 rfl).add hF 7 rfl).add hF 3 rfl).add hF 2 rfl).add hF 1 rfl).add hF 0 rfl)
        · refine rI_op 10 hF rfl rfl rfl ((wanted_of hF rfl rfl rfl rfl).trans rfl) rfl (x_faddr Try.underlying62 rfl ty59 (by decide) (hF.tmp 16 rfl) rfl) ?_; clear hF; intro a hF; rw [← hW_]; exact hs_111111101110000000 a ((((((((((((((hF.bare.add hF 17 rfl).add hF 16 rfl).add hF 15 rfl).add hF 13 rfl).add hF 12 rfl).add hF 11 rfl).add hF 10 rfl).add hF 9 rfl).add hF 8 rfl).add hF 7 rfl).add hF 3 rfl).add hF 2 rfl).add hF 1 rfl).add hF 0 rfl)
      have hs_111111011100000000 : ∀ a, Fr 60 a [(0, .func (.yield l_) #[] #[]), (1, .pointer (some ⟨bn, 0, none⟩)), (2, .pointer (some ⟨bk, 0, none⟩)), (3, .pointer (some ⟨b3, 0, none⟩)), (7, .pointer (some ⟨bp, 0, none⟩)), (8, .pointer (some ⟨bp, 0, none⟩)), (9, .pointer (some ⟨bp, 1, none⟩)), (10, .pointer (some ⟨bv, 0, none⟩)), (11, .bool true), (12, .bool true), (14, .string (strOfNums p.path)), (15, .pointer (some ⟨bp, 0, none⟩)), (16, .pointer (some ⟨bp, 0, none⟩))] → W_ 9 #[true, true, true, true, true, true, false, true, true, true, false, false, false, false, false, false, false, false] a w := by
        intro a hF
        rw [hW_]
        refine rI_ready (rs := [6, 10]) (by kernel_rfl) (by decide) (all2 ?_ ?_)
        · refine rI_op 6 hF rfl rfl rfl ((wanted_of hF rfl rfl rfl rfl).trans rfl) rfl (x_load1 ty71 (hF.tmp 3 rfl) (blk_cell (hH.at 33 rfl) 0 rfl)) ?_; clear hF; intro a hF; rw [← hW_]; exact hs_111111111100000000 a ((((((((((((((hF.bare.add hF 16 rfl).add hF 15 rfl).add hF 14 rfl).add hF 13 rfl).add hF 12 rfl).add hF 11 rfl).add hF 10 rfl).add hF 9 rfl).add hF 8 rfl).add hF 7 rfl).add hF 3 rfl).add hF 2 rfl).add hF 1 rfl).add hF 0 rfl)
        · refine rI_op 10 hF rfl rfl rfl ((wanted_of hF rfl rfl rfl rfl).trans rfl) rfl (x_faddr Try.underlying62 rfl ty59 (by decide) (hF.tmp 16 rfl) rfl) ?_; clear hF; intro a hF; rw [← hW_]; exact hs_111111011110000000 a ((((((((((((((hF.bare.add hF 17 rfl).add hF 16 rfl).add hF 15 rfl).add hF 14 rfl).add hF 12 rfl).add hF 11 rfl).add hF 10 rfl).add hF 9 rfl).add hF 8 rfl).add hF 7 rfl).add hF 3 rfl).add hF 2 rfl).add hF 1 rfl).add hF 0 rfl)
      have hs_111111001110000000 : ∀ a, Fr 60 a [(0, .func (.yield l_) #[] #[]), (1, .pointer (some ⟨bn, 0, none⟩)), (2, .pointer (some ⟨bk, 0, none⟩)), (3, .pointer (some ⟨b3, 0, none⟩)), (7, .pointer (some ⟨bp, 0, none⟩)), (8, .pointer (some ⟨bp, 0, none⟩)), (9, .pointer (some ⟨bp, 1, none⟩)), (10, .pointer (some ⟨bv, 0, none⟩)), (11, .bool true), (12, .bool true), (15, .pointer (some ⟨bp, 0, none⟩)), (16, .pointer (some ⟨bp, 0, none⟩)), (17, .pointer (some ⟨bp, 1, none⟩))] → W_ 9 #[true, true, true, true, true, true, false, false, true, true, true, false, false, false, false, false, false, false] a w := by
        intro a hF
        rw [hW_]
        refine rI_ready (rs := [6, 7, 11]) (by kernel_rfl) (by decide) (all3 ?_ ?_ ?_)
        · refine rI_op 6 hF rfl rfl rfl ((wanted_of hF rfl rfl rfl rfl).trans rfl) rfl (x_load1 ty71 (hF.tmp 3 rfl) (blk_cell (hH.at 33 rfl) 0 rfl)) ?_; clear hF; intro a hF; rw [← hW_]; exact hs_111111101110000000 a ((((((((((((((hF.bare.add hF 17 rfl).add hF 16 rfl).add hF 15 rfl).add hF 13 rfl).add hF 12 rfl).add hF 11 rfl).add hF 10 rfl).add hF 9 rfl).add hF 8 rfl).add hF 7 rfl).add hF 3 rfl).add hF 2 rfl).add hF 1 rfl).add hF 0 rfl)
        · refine rI_op 7 hF rfl rfl rfl ((wanted_of hF rfl rfl rfl rfl).trans rfl) rfl (x_load1 ty9 (hF.tmp 2 rfl) (blk_cell (hH.atro 62 rfl) 0 rfl)) ?_; clear hF; intro a hF; rw [← hW_]; exact hs_111111011110000000 a ((((((((((((((hF.bare.add hF 17 rfl).add hF 16 rfl).add hF 15 rfl).add hF 14 rfl).add hF 12 rfl).add hF 11 rfl).add hF 10 rfl).add hF 9 rfl).add hF 8 rfl).add hF 7 rfl).add hF 3 rfl).add hF 2 rfl).add hF 1 rfl).add hF 0 rfl)
        · refine rI_op 11 hF rfl rfl rfl ((wanted_of hF rfl rfl rfl rfl).trans rfl) rfl (x_load1 ty59 (hF.tmp 17 rfl) (blk_cell (hH.atro 11 rfl) 1 rfl)) ?_; clear hF; intro a hF; rw [← hW_]; exact hs_111111001111000000 a ((((((((((((((hF.bare.add hF 18 rfl).add hF 17 rfl).add hF 16 rfl).add hF 15 rfl).add hF 12 rfl).add hF 11 rfl).add hF 10 rfl).add hF 9 rfl).add hF 8 rfl).add hF 7 rfl).add hF 3 rfl).add hF 2 rfl).add hF 1 rfl).add hF 0 rfl)
      have hs_111111110000000000 : ∀ a, Fr 60 a [(0, .func (.yield l_) #[] #[]), (1, .pointer (some ⟨bn, 0, none⟩)), (2, .pointer (some ⟨bk, 0, none⟩)), (3, .pointer (some ⟨b3, 0, none⟩)), (7, .pointer (some ⟨bp, 0, none⟩)), (8, .pointer (some ⟨bp, 0, none⟩)), (9, .pointer (some ⟨bp, 1, none⟩)), (10, .pointer (some ⟨bv, 0, none⟩)), (11, .bool true), (12, .bool true), (13, .func (.yield l_) #[] #[]), (14, .string (strOfNums p.path))] → W_ 10 #[true, true, true, true, true, true, true, true, false, false, false, false, false, false, false, false, false, false] a w := by
        intro a hF
        rw [hW_]
        refine rI_ready (rs := [8]) (by kernel_rfl) (by decide) (all1 ?_)
        · refine rI_op 8 hF rfl rfl rfl ((wanted_of hF rfl rfl rfl rfl).trans rfl) rfl (x_load1 ty56 (hF.tmp 1 rfl) (blk_cell (hH.atro 61 rfl) 0 rfl)) ?_; clear hF; intro a hF; rw [← hW_]; exact hs_111111111000000000 a (((((((((((((hF.bare.add hF 15 rfl).add hF 14 rfl).add hF 13 rfl).add hF 12 rfl).add hF 11 rfl).add hF 10 rfl).add hF 9 rfl).add hF 8 rfl).add hF 7 rfl).add hF 3 rfl).add hF 2 rfl).add hF 1 rfl).add hF 0 rfl)
      have hs_111111101000000000 : ∀ a, Fr 60 a [(0, .func (.yield l_) #[] #[]), (1, .pointer (some ⟨bn, 0, none⟩)), (2, .pointer (some ⟨bk, 0, none⟩)), (3, .pointer (some ⟨b3, 0, none⟩)), (7, .pointer (some ⟨bp, 0, none⟩)), (8, .pointer (some ⟨bp, 0, none⟩)), (9, .pointer (some ⟨bp, 1, none⟩)), (10, .pointer (some ⟨bv, 0, none⟩)), (11, .bool true), (12, .bool true), (13, .func (.yield l_) #[] #[]), (15, .pointer (some ⟨bp, 0, none⟩))] → W_ 10 #[true, true, true, true, true, true, true, false, true, false, false, false, false, false, false, false, false, false] a w := by
        intro a hF
        rw [hW_]
        refine rI_ready (rs := [7, 9]) (by kernel_rfl) (by decide) (all2 ?_ ?_)
        · refine rI_op 7 hF rfl rfl rfl ((wanted_of hF rfl rfl rfl rfl).trans rfl) rfl (x_load1 ty9 (hF.tmp 2 rfl) (blk_cell (hH.atro 62 rfl) 0 rfl)) ?_; clear hF; intro a hF; rw [← hW_]; exact hs_111111111000000000 a (((((((((((((hF.bare.add hF 15 rfl).add hF 14 rfl).add hF 13 rfl).add hF 12 rfl).add hF 11 rfl).add hF 10 rfl).add hF 9 rfl).add hF 8 rfl).add hF 7 rfl).add hF 3 rfl).add hF 2 rfl).add hF 1 rfl).add hF 0 rfl)
        · refine rI_op 9 hF rfl rfl rfl ((wanted_of hF rfl rfl rfl rfl).trans rfl) rfl (x_nil (hF.tmp 15 rfl)) ?_; clear hF; intro a hF; rw [← hW_]; exact hs_111111101100000000 a (((((((((((((hF.bare.add hF 16 rfl).add hF 15 rfl).add hF 13 rfl).add hF 12 rfl).add hF 11 rfl).add hF 10 rfl).add hF 9 rfl).add hF 8 rfl).add hF 7 rfl).add hF 3 rfl).add hF 2 rfl).add hF 1 rfl).add hF 0 rfl)
      have hs_111111011000000000 : ∀ a, Fr 60 a [(0, .func (.yield l_) #[] #[]), (1, .pointer (some ⟨bn, 0, none⟩)), (2, .pointer (some ⟨bk, 0, none⟩)), (3, .pointer (some ⟨b3, 0, none⟩)), (7, .pointer (some ⟨bp, 0, none⟩)), (8, .pointer (some ⟨bp, 0, none⟩)), (9, .pointer (some ⟨bp, 1, none⟩)), (10, .pointer (some ⟨bv, 0, none⟩)), (11, .bool true), (12, .bool true), (14, .string (strOfNums p.path)), (15, .pointer (some ⟨bp, 0, none⟩))] → W_ 10 #[true, true, true, true, true, true, false, true, true, false, false, false, false, false, false, false, false, false] a w := by
        intro a hF
        rw [hW_]
        refine rI_ready (rs := [6, 9]) (by kernel_rfl) (by decide) (all2 ?_ ?_)
        · refine rI_op 6 hF rfl rfl rfl ((wanted_of hF rfl rfl rfl rfl).trans rfl) rfl (x_load1 ty71 (hF.tmp 3 rfl) (blk_cell (hH.at 33 rfl) 0 rfl)) ?_; clear hF; intro a hF; rw [← hW_]; exact hs_111111111000000000 a (((((((((((((hF.bare.add hF 15 rfl).add hF 14 rfl).add hF 13 rfl).add hF 12 rfl).add hF 11 rfl).add hF 10 rfl).add hF 9 rfl).add hF 8 rfl).add hF 7 rfl).add hF 3 rfl).add hF 2 rfl).add hF 1 rfl).add hF 0 rfl)
        · refine rI_op 9 hF rfl rfl rfl ((wanted_of hF rfl rfl rfl rfl).trans rfl) rfl (x_nil (hF.tmp 15 rfl)) ?_; clear hF; intro a hF; rw [← hW_]; exact hs_111111011100000000 a (((((((((((((hF.bare.add hF 16 rfl).add hF 15 rfl).add hF 14 rfl).add hF 12 rfl).add hF 11 rfl).add hF 10 rfl).add hF 9 rfl).add hF 8 rfl).add hF 7 rfl).add hF 3 rfl).add hF 2 rfl).add hF 1 rfl).add hF 0 rfl)
      have hs_111111001100000000 : ∀ a, Fr 60 a [(0, .func (.yield l_) #[] #[]), (1, .pointer (some ⟨bn, 0, none⟩)), (2, .pointer (some ⟨bk, 0, none⟩)), (3, .pointer (some ⟨b3, 0, none⟩)), (7, .pointer (some ⟨bp, 0, none⟩)), (8, .pointer (some ⟨bp, 0, none⟩)), (9, .pointer (some ⟨bp, 1, none⟩)), (10, .pointer (some ⟨bv, 0, none⟩)), (11, .bool true), (12, .bool true), (15, .pointer (some ⟨bp, 0, none⟩)), (16, .pointer (some ⟨bp, 0, none⟩))] → W_ 10 #[true, true, true, true, true, true, false, false, true, true, false, false, false, false, false, false, false, false] a w := by
        intro a hF
        rw [hW_]
        refine rI_ready (rs := [6, 7, 10]) (by kernel_rfl) (by decide) (all3 ?_ ?_ ?_)
        · refine rI_op 6 hF rfl rfl rfl ((wanted_of hF rfl rfl rfl rfl).trans rfl) rfl (x_load1 ty71 (hF.tmp 3 rfl) (blk_cell (hH.at 33 rfl) 0 rfl)) ?_; clear hF; intro a hF; rw [← hW_]; exact hs_111111101100000000 a (((((((((((((hF.bare.add hF 16 rfl).add hF 15 rfl).add hF 13 rfl).add hF 12 rfl).add hF 11 rfl).add hF 10 rfl).add hF 9 rfl).add hF 8 rfl).add hF 7 rfl).add hF 3 rfl).add hF 2 rfl).add hF 1 rfl).add hF 0 rfl)
        · refine rI_op 7 hF rfl rfl rfl ((wanted_of hF rfl rfl rfl rfl).trans rfl) rfl (x_load1 ty9 (hF.tmp 2 rfl) (blk_cell (hH.atro 62 rfl) 0 rfl)) ?_; clear hF; intro a hF; rw [← hW_]; exact hs_111111011100000000 a (((((((((((((hF.bare.add hF 16 rfl).add hF 15 rfl).add hF 14 rfl).add hF 12 rfl).add hF 11 rfl).add hF 10 rfl).add hF 9 rfl).add hF 8 rfl).add hF 7 rfl).add hF 3 rfl).add hF 2 rfl).add hF 1 rfl).add hF 0 rfl)
        · refine rI_op 10 hF rfl rfl rfl ((wanted_of hF rfl rfl rfl rfl).trans rfl) rfl (x_faddr Try.underlying62 rfl ty59 (by decide) (hF.tmp 16 rfl) rfl) ?_; clear hF; intro a hF; rw [← hW_]; exact hs_111111001110000000 a (((((((((((((hF.bare.add hF 17 rfl).add hF 16 rfl).add hF 15 rfl).add hF 12 rfl).add hF 11 rfl).add hF 10 rfl).add hF 9 rfl).add hF 8 rfl).add hF 7 rfl).add hF 3 rfl).add hF 2 rfl).add hF 1 rfl).add hF 0 rfl)
      have hs_111111100000000000 : ∀ a, Fr 60 a [(0, .func (.yield l_) #[] #[]), (1, .pointer (some ⟨bn, 0, none⟩)), (2, .pointer (some ⟨bk, 0, none⟩)), (3, .pointer (some ⟨b3, 0, none⟩)), (7, .pointer (some ⟨bp, 0, none⟩)), (8, .pointer (some ⟨bp, 0, none⟩)), (9, .pointer (some ⟨bp, 1, none⟩)), (10, .pointer (some ⟨bv, 0, none⟩)), (11, .bool true), (12, .bool true), (13, .func (.yield l_) #[] #[])] → W_ 11 #[true, true, true, true, true, true, true, false, false, false, false, false, false, false, false, false, false, false] a w := by
        intro a hF
        rw [hW_]
        refine rI_ready (rs := [7, 8]) (by kernel_rfl) (by decide) (all2 ?_ ?_)
        · refine rI_op 7 hF rfl rfl rfl ((wanted_of hF rfl rfl rfl rfl).trans rfl) rfl (x_load1 ty9 (hF.tmp 2 rfl) (blk_cell (hH.atro 62 rfl) 0 rfl)) ?_; clear hF; intro a hF; rw [← hW_]; exact hs_111111110000000000 a ((((((((((((hF.bare.add hF 14 rfl).add hF 13 rfl).add hF 12 rfl).add hF 11 rfl).add hF 10 rfl).add hF 9 rfl).add hF 8 rfl).add hF 7 rfl).add hF 3 rfl).add hF 2 rfl).add hF 1 rfl).add hF 0 rfl)
        · refine rI_op 8 hF rfl rfl rfl ((wanted_of hF rfl rfl rfl rfl).trans rfl) rfl (x_load1 ty56 (hF.tmp 1 rfl) (blk_cell (hH.atro 61 rfl) 0 rfl)) ?_; clear hF; intro a hF; rw [← hW_]; exact hs_111111101000000000 a ((((((((((((hF.bare.add hF 15 rfl).add hF 13 rfl).add hF 12 rfl).add hF 11 rfl).add hF 10 rfl).add hF 9 rfl).add hF 8 rfl).add hF 7 rfl).add hF 3 rfl).add hF 2 rfl).add hF 1 rfl).add hF 0 rfl)
      have hs_111111010000000000 : ∀ a, Fr 60 a [(0, .func (.yield l_) #[] #[]), (1, .pointer (some ⟨bn, 0, none⟩)), (2, .pointer (some ⟨bk, 0, none⟩)), (3, .pointer (some ⟨b3, 0, none⟩)), (7, .pointer (some ⟨bp, 0, none⟩)), (8, .pointer (some ⟨bp, 0, none⟩)), (9, .pointer (some ⟨bp, 1, none⟩)), (10, .pointer (some ⟨bv, 0, none⟩)), (11, .bool true), (12, .bool true), (14, .string (strOfNums p.path))] → W_ 11 #[true, true, true, true, true, true, false, true, false, false, false, false, false, false, false, false, false, false] a w := by
        intro a hF
        rw [hW_]
        refine rI_ready (rs := [6, 8]) (by kernel_rfl) (by decide) (all2 ?_ ?_)
        · refine rI_op 6 hF rfl rfl rfl ((wanted_of hF rfl rfl rfl rfl).trans rfl) rfl (x_load1 ty71 (hF.tmp 3 rfl) (blk_cell (hH.at 33 rfl) 0 rfl)) ?_; clear hF; intro a hF; rw [← hW_]; exact hs_111111110000000000 a ((((((((((((hF.bare.add hF 14 rfl).add hF 13 rfl).add hF 12 rfl).add hF 11 rfl).add hF 10 rfl).add hF 9 rfl).add hF 8 rfl).add hF 7 rfl).add hF 3 rfl).add hF 2 rfl).add hF 1 rfl).add hF 0 rfl)
        · refine rI_op 8 hF rfl rfl rfl ((wanted_of hF rfl rfl rfl rfl).trans rfl) rfl (x_load1 ty56 (hF.tmp 1 rfl) (blk_cell (hH.atro 61 rfl) 0 rfl)) ?_; clear hF; intro a hF; rw [← hW_]; exact hs_111111011000000000 a ((((((((((((hF.bare.add hF 15 rfl).add hF 14 rfl).add hF 12 rfl).add hF 11 rfl).add hF 10 rfl).add hF 9 rfl).add hF 8 rfl).add hF 7 rfl).add hF 3 rfl).add hF 2 rfl).add hF 1 rfl).add hF 0 rfl)
      have hs_111111001000000000 : ∀ a, Fr 60 a [(0, .func (.yield l_) #[] #[]), (1, .pointer (some ⟨bn, 0, none⟩)), (2, .pointer (some ⟨bk, 0, none⟩)), (3, .pointer (some ⟨b3, 0, none⟩)), (7, .pointer (some ⟨bp, 0, none⟩)), (8, .pointer (some ⟨bp, 0, none⟩)), (9, .pointer (some ⟨bp, 1, none⟩)), (10, .pointer (some ⟨bv, 0, none⟩)), (11, .bool true), (12, .bool true), (15, .pointer (some ⟨bp, 0, none⟩))] → W_ 11 #[true, true, true, true, true, true, false, false, true, false, false, false, false, false, false, false, false, false] a w := by
        intro a hF
        rw [hW_]
        refine rI_ready (rs := [6, 7, 9]) (by kernel_rfl) (by decide) (all3 ?_ ?_ ?_)
        · refine rI_op 6 hF rfl rfl rfl ((wanted_of hF rfl rfl rfl rfl).trans rfl) rfl (x_load1 ty71 (hF.tmp 3 rfl) (blk_cell (hH.at 33 rfl) 0 rfl)) ?_; clear hF; intro a hF; rw [← hW_]; exact hs_111111101000000000 a ((((((((((((hF.bare.add hF 15 rfl).add hF 13 rfl).add hF 12 rfl).add hF 11 rfl).add hF 10 rfl).add hF 9 rfl).add hF 8 rfl).add hF 7 rfl).add hF 3 rfl).add hF 2 rfl).add hF 1 rfl).add hF 0 rfl)
        · refine rI_op 7 hF rfl rfl rfl ((wanted_of hF rfl rfl rfl rfl).trans rfl) rfl (x_load1 ty9 (hF.tmp 2 rfl) (blk_cell (hH.atro 62 rfl) 0 rfl)) ?_; clear hF; intro a hF; rw [← hW_]; exact hs_111111011000000000 a ((((((((((((hF.bare.add hF 15 rfl).add hF 14 rfl).add hF 12 rfl).add hF 11 rfl).add hF 10 rfl).add hF 9 rfl).add hF 8 rfl).add hF 7 rfl).add hF 3 rfl).add hF 2 rfl).add hF 1 rfl).add hF 0 rfl)
        · refine rI_op 9 hF rfl rfl rfl ((wanted_of hF rfl rfl rfl rfl).trans rfl) rfl (x_nil (hF.tmp 15 rfl)) ?_; clear hF; intro a hF; rw [← hW_]; exact hs_111111001100000000 a ((((((((((((hF.bare.add hF 16 rfl).add hF 15 rfl).add hF 12 rfl).add hF 11 rfl).add hF 10 rfl).add hF 9 rfl).add hF 8 rfl).add hF 7 rfl).add hF 3 rfl).add hF 2 rfl).add hF 1 rfl).add hF 0 rfl)
      have hs_111111000000000000 : ∀ a, Fr 60 a [(0, .func (.yield l_) #[] #[]), (1, .pointer (some ⟨bn, 0, none⟩)), (2, .pointer (some ⟨bk, 0, none⟩)), (3, .pointer (some ⟨b3, 0, none⟩)), (7, .pointer (some ⟨bp, 0, none⟩)), (8, .pointer (some ⟨bp, 0, none⟩)), (9, .pointer (some ⟨bp, 1, none⟩)), (10, .pointer (some ⟨bv, 0, none⟩)), (11, .bool true), (12, .bool true)] → W_ 12 #[true, true, true, true, true, true, false, false, false, false, false, false, false, false, false, false, false, false] a w := by
        intro a hF
        rw [hW_]
        refine rI_ready (rs := [6, 7, 8]) (by kernel_rfl) (by decide) (all3 ?_ ?_ ?_)
        · refine rI_op 6 hF rfl rfl rfl ((wanted_of hF rfl rfl rfl rfl).trans rfl) rfl (x_load1 ty71 (hF.tmp 3 rfl) (blk_cell (hH.at 33 rfl) 0 rfl)) ?_; clear hF; intro a hF; rw [← hW_]; exact hs_111111100000000000 a (((((((((((hF.bare.add hF 13 rfl).add hF 12 rfl).add hF 11 rfl).add hF 10 rfl).add hF 9 rfl).add hF 8 rfl).add hF 7 rfl).add hF 3 rfl).add hF 2 rfl).add hF 1 rfl).add hF 0 rfl)
        · refine rI_op 7 hF rfl rfl rfl ((wanted_of hF rfl rfl rfl rfl).trans rfl) rfl (x_load1 ty9 (hF.tmp 2 rfl) (blk_cell (hH.atro 62 rfl) 0 rfl)) ?_; clear hF; intro a hF; rw [← hW_]; exact hs_111111010000000000 a (((((((((((hF.bare.add hF 14 rfl).add hF 12 rfl).add hF 11 rfl).add hF 10 rfl).add hF 9 rfl).add hF 8 rfl).add hF 7 rfl).add hF 3 rfl).add hF 2 rfl).add hF 1 rfl).add hF 0 rfl)
        · refine rI_op 8 hF rfl rfl rfl ((wanted_of hF rfl rfl rfl rfl).trans rfl) rfl (x_load1 ty56 (hF.tmp 1 rfl) (blk_cell (hH.atro 61 rfl) 0 rfl)) ?_; clear hF; intro a hF; rw [← hW_]; exact hs_111111001000000000 a (((((((((((hF.bare.add hF 15 rfl).add hF 12 rfl).add hF 11 rfl).add hF 10 rfl).add hF 9 rfl).add hF 8 rfl).add hF 7 rfl).add hF 3 rfl).add hF 2 rfl).add hF 1 rfl).add hF 0 rfl)
      have hs_111110000000000000 : ∀ a, Fr 60 a [(0, .func (.yield l_) #[] #[]), (1, .pointer (some ⟨bn, 0, none⟩)), (2, .pointer (some ⟨bk, 0, none⟩)), (3, .pointer (some ⟨b3, 0, none⟩)), (7, .pointer (some ⟨bp, 0, none⟩)), (8, .pointer (some ⟨bp, 0, none⟩)), (9, .pointer (some ⟨bp, 1, none⟩)), (10, .pointer (some ⟨bv, 0, none⟩)), (11, .bool true)] → W_ 13 #[true, true, true, true, true, false, false, false, false, false, false, false, false, false, false, false, false, false] a w := by
        intro a hF
        rw [hW_]
        refine rI_ready (rs := [5]) (by kernel_rfl) (by decide) (all1 ?_)
        · refine rI_op 5 hF rfl rfl rfl rfl rfl (x_move (hF.tmp 11 rfl)) ?_; clear hF; intro a hF; rw [← hW_]; exact hs_111111000000000000 a ((((((((((hF.bare.add hF 12 rfl).add hF 11 rfl).add hF 10 rfl).add hF 9 rfl).add hF 8 rfl).add hF 7 rfl).add hF 3 rfl).add hF 2 rfl).add hF 1 rfl).add hF 0 rfl)
      have hs_111100000000000000 : ∀ a, Fr 60 a [(0, .func (.yield l_) #[] #[]), (1, .pointer (some ⟨bn, 0, none⟩)), (2, .pointer (some ⟨bk, 0, none⟩)), (3, .pointer (some ⟨b3, 0, none⟩)), (7, .pointer (some ⟨bp, 0, none⟩)), (8, .pointer (some ⟨bp, 0, none⟩)), (9, .pointer (some ⟨bp, 1, none⟩)), (10, .pointer (some ⟨bv, 0, none⟩))] → W_ 14 #[true, true, true, true, false, false, false, false, false, false, false, false, false, false, false, false, false, false] a w := by
        intro a hF
        rw [hW_]
        refine rI_ready (rs := [4]) (by kernel_rfl) (by decide) (all1 ?_)
        · refine rI_op 4 hF rfl rfl rfl rfl rfl (x_ptrne Try.underlying59 (hF.tmp 10 rfl) rfl) ?_; clear hF; intro a hF; rw [← hW_]; exact hs_111110000000000000 a (((((((((hF.bare.add hF 11 rfl).add hF 10 rfl).add hF 9 rfl).add hF 8 rfl).add hF 7 rfl).add hF 3 rfl).add hF 2 rfl).add hF 1 rfl).add hF 0 rfl)
      have hs_111000000000000000 : ∀ a, Fr 60 a [(0, .func (.yield l_) #[] #[]), (1, .pointer (some ⟨bn, 0, none⟩)), (2, .pointer (some ⟨bk, 0, none⟩)), (3, .pointer (some ⟨b3, 0, none⟩)), (7, .pointer (some ⟨bp, 0, none⟩)), (8, .pointer (some ⟨bp, 0, none⟩)), (9, .pointer (some ⟨bp, 1, none⟩))] → W_ 15 #[true, true, true, false, false, false, false, false, false, false, false, false, false, false, false, false, false, false] a w := by
        intro a hF
        rw [hW_]
        refine rI_ready (rs := [3]) (by kernel_rfl) (by decide) (all1 ?_)
        · refine rI_op 3 hF rfl rfl rfl rfl rfl (x_load1 ty59 (hF.tmp 9 rfl) (blk_cell (hH.atro 11 rfl) 1 rfl)) ?_; clear hF; intro a hF; rw [← hW_]; exact hs_111100000000000000 a ((((((((hF.bare.add hF 10 rfl).add hF 9 rfl).add hF 8 rfl).add hF 7 rfl).add hF 3 rfl).add hF 2 rfl).add hF 1 rfl).add hF 0 rfl)
      have hs_110000000000000000 : ∀ a, Fr 60 a [(0, .func (.yield l_) #[] #[]), (1, .pointer (some ⟨bn, 0, none⟩)), (2, .pointer (some ⟨bk, 0, none⟩)), (3, .pointer (some ⟨b3, 0, none⟩)), (7, .pointer (some ⟨bp, 0, none⟩)), (8, .pointer (some ⟨bp, 0, none⟩))] → W_ 16 #[true, true, false, false, false, false, false, false, false, false, false, false, false, false, false, false, false, false] a w := by
        intro a hF
        rw [hW_]
        refine rI_ready (rs := [2]) (by kernel_rfl) (by decide) (all1 ?_)
        · refine rI_op 2 hF rfl rfl rfl rfl rfl (x_faddr Try.underlying62 rfl ty59 (by decide) (hF.tmp 8 rfl) rfl) ?_; clear hF; intro a hF; rw [← hW_]; exact hs_111000000000000000 a (((((((hF.bare.add hF 9 rfl).add hF 8 rfl).add hF 7 rfl).add hF 3 rfl).add hF 2 rfl).add hF 1 rfl).add hF 0 rfl)
      have hs_100000000000000000 : ∀ a, Fr 60 a [(0, .func (.yield l_) #[] #[]), (1, .pointer (some ⟨bn, 0, none⟩)), (2, .pointer (some ⟨bk, 0, none⟩)), (3, .pointer (some ⟨b3, 0, none⟩)), (7, .pointer (some ⟨bp, 0, none⟩))] → W_ 17 #[true, false, false, false, false, false, false, false, false, false, false, false, false, false, false, false, false, false] a w := by
        intro a hF
        rw [hW_]
        refine rI_ready (rs := [1]) (by kernel_rfl) (by decide) (all1 ?_)
        · refine rI_op 1 hF rfl rfl rfl rfl rfl (x_nil (hF.tmp 7 rfl)) ?_; clear hF; intro a hF; rw [← hW_]; exact hs_110000000000000000 a ((((((hF.bare.add hF 8 rfl).add hF 7 rfl).add hF 3 rfl).add hF 2 rfl).add hF 1 rfl).add hF 0 rfl)
      have hs_000000000000000000 : ∀ a, Fr 60 a [(0, .func (.yield l_) #[] #[]), (1, .pointer (some ⟨bn, 0, none⟩)), (2, .pointer (some ⟨bk, 0, none⟩)), (3, .pointer (some ⟨b3, 0, none⟩))] → W_ 18 #[false, false, false, false, false, false, false, false, false, false, false, false, false, false, false, false, false, false] a w := by
        intro a hF
        rw [hW_]
        refine rI_ready (rs := [0]) (by kernel_rfl) (by decide) (all1 ?_)
        · refine rI_op 0 hF rfl rfl rfl rfl rfl (x_load1 ty56 (hF.tmp 1 rfl) (blk_cell (hH.atro 61 rfl) 0 rfl)) ?_; clear hF; intro a hF; rw [← hW_]; exact hs_100000000000000000 a (((((hF.bare.add hF 7 rfl).add hF 3 rfl).add hF 2 rfl).add hF 1 rfl).add hF 0 rfl)
      exact hs_000000000000000000 a ((((hF.bare.add hF 3 rfl).add hF 2 rfl).add hF 1 rfl).add hF 0 rfl)

end Go.Proofs.Ytlcnoibjhmflnaa.Act
