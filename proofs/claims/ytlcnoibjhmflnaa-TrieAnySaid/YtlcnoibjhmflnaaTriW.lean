/- The trie's Walk. -/
import Derived.Test.YtlcnoibjhmflnaaTriE
set_option linter.unusedVariables false
set_option linter.unusedSimpArgs false
namespace Go.Proofs.Ytlcnoibjhmflnaa.Act
open Go.RowKit Go.Proofs.Ytlcnoibjhmflnaa.Sx Go.Sort Go.Proofs.Ytlcnoibjhmflnaa.Cod
theorem ty25 : TyI Try.prog 25 (.slice none 0 0) 1 24 false := ⟨by kernel_rfl, _, Try.underlying25, rfl⟩
abbrev EntT := (List Int) × (List Int)
def TentE : Rep EntT := (Rep.pair Rep.sn Rep.sn)
def gtent (xs : List EntT) (i : Int) : EntT := xs.getD i.toNat ([], [])
theorem gtent_some {xs : List EntT} {i : Int} (h0 : 0 ≤ i) (h1 : i < xs.length) : xs[i.toNat]? = some (gtent xs i) := by
  have hi : i.toNat < xs.length := by omega
  simp [gtent, List.getD_eq_getElem?_getD, List.getElem?_eq_getElem hi]
theorem gtent_mem {xs : List EntT} {j : Nat} (h : j < xs.length) : gtent xs (j : Int) ∈ xs := List.mem_of_getElem? (gtent_some (xs := xs) (i := (j : Int)) (by omega) (by omega))
theorem gtent_at {xs : List EntT} {j : Nat} (h : j < xs.length) : xs[j]? = some (gtent xs (j : Int)) := gtent_some (xs := xs) (i := (j : Int)) (by omega) (by omega)
theorem tent_cells {w : World} {ok : Nat → Prop} {x : EntT} {cs : List Value} (h : TentE.R w ok x cs) : cs = [.string (strOfNums x.1), .string (strOfNums x.2)] := by
  obtain ⟨cc0, dd0, rfl, hc0, hc1⟩ := h
  have he0 : cc0 = [.string (strOfNums x.1)] := hc0
  subst he0
  have he1 : dd0 = [.string (strOfNums x.2)] := hc1
  subst he1
  exact rfl
theorem tent_mk {w : World} {ok : Nat → Prop} (x : EntT) : TentE.R w ok x [.string (strOfNums x.1), .string (strOfNums x.2)] :=
  ⟨[.string (strOfNums x.1)], _, rfl, rfl, rfl⟩
theorem tent_any {T : TypeId} {w : World} {ok ok' : Nat → Prop} {v : Value} {xs : List EntT} (h : Row TentE T w ok v xs) : Row TentE T w ok' v xs := by
  obtain ⟨cs, h1, h2, h3⟩ := h
  refine ⟨cs, h1, h2, fun i x hx => ?_⟩
  have := tent_cells (h3 i x hx)
  rw [this]
  exact tent_mk x
theorem rd_tent {w : World} {ok : Nat → Prop} {A : Option Addr} {xs : List EntT} {c : Nat} (hr : Rd TentE w ok A xs c) {i : Nat} {f : EntT} (hx : xs[i]? = some f) : w.cell? (adr A (i * 2)) = some (.string (strOfNums f.1)) ∧ w.cell? (adr A (i * 2 + 1)) = some (.string (strOfNums f.2)) ∧
    (∀ j u, (#[.string (strOfNums f.1), .string (strOfNums f.2)] : Array Value).toList[j]? = some u → w.cell? ((adr A (i * 2)).add j) = some u) := by
  obtain ⟨cs, hR, hc⟩ := hr.cellsA (n := 2) rfl hx
  have := tent_cells hR
  subst this
  obtain ⟨b, off, rfl⟩ := hr.some_ (by have := (List.getElem?_eq_some_iff.1 hx).1; omega)
  have e : ∀ q, adr (some (⟨b, off, Option.none⟩ : Addr)) q = ⟨b, off + q, Option.none⟩ := fun q => by simp only [adr, Option.getD_some]; exact add_off _ _ _
  have g : ∀ j u, [(.string (strOfNums f.1) : Value), .string (strOfNums f.2)][j]? = some u → w.cell? (adr (some (⟨b, off, Option.none⟩ : Addr)) (i * 2 + j)) = some u := fun j u hj => by
    have := hc j u hj
    rw [e, add_off] at this
    rw [e, ← Nat.add_assoc]; exact this
  exact ⟨g 0 _ rfl, g 1 _ rfl, fun j u hj => hc j u hj⟩
set_option maxRecDepth 100000 in
set_option maxHeartbeats 1000000 in
theorem walk_calls (w0 : World) {X : Asn} {tb : Nat} {l : List Ent} (hX : TrieA 58 62 9 tb l X) (hok : X.ok w0) {pre : List Int} (hpb : Byte pre) (hpl : pre.length ≤ 1000000) {most : Int} (hm0 : -9223372036854775808 ≤ most) (hm1 : most < 9223372036854775808) (hll : l.length ≤ 100000) (hkk : 2 * l.length + 1 ≤ kmax) : Calls Try.prog 10 #[.pointer (some ⟨tb, 0, none⟩), .string (strOfNums pre), .int .i64 most] w0 fun e w' => ∃ v, e = .returned v ∧ Mods (fun _ => False) w0 w' ∧ RowOut TentE 30 w0 w' v (walkL l pre most) := by
  obtain ⟨S, root, rfl, hw, hm, he⟩ := hX
  obtain ⟨p0, hp0, rfl, hb0⟩ := hw.root
  refine calls_marksN Try.func10 rfl ?_
  have hF := Fr.enter #[.pointer (some ⟨tb, 0, none⟩), .string (strOfNums pre), .int .i64 most] 82 (slotsOf [.pointer (some ⟨tb, 0, none⟩), .string (strOfNums pre), .int .i64 most] 0) (Nat.le_of_ble_eq_true rfl) (fun i v h => by have h2 := (get_slotsOf _ 0 i v h).2; simpa only [List.getElem?_toArray, Nat.sub_zero] using h2)
  rw [Try.ntmps10]
  revert hF; generalize (⟨(#[.pointer (some ⟨tb, 0, none⟩), .string (strOfNums pre), .int .i64 most] : Array Value) ++ Array.replicate (82 - (#[.pointer (some ⟨tb, 0, none⟩), .string (strOfNums pre), .int .i64 most] : Array Value).size) undef, []⟩ : Act) = a; intro hF
  have hH := ro2 hok.holds
  have hpos := hH.arPosR 3 rfl
  have hSl : S.length ≤ 2 * l.length + 1 := by rw [hw.count hm he]; exact nodesL_le l
  have hkm : ∀ p ∈ S, p.kids.length ≤ kmax := fun p hp => Nat.le_trans (kids_le hw hp) (by omega)
  refine wp_seq_k fun khK1 hK1 => ?_
  refine wp_region_lit ?_
  refine wpList_plain rfl fun K hK => ?_
  refine w_box 5 hF hH rfl (hF.tmp 2 rfl) ?_
  clear hF hH; intro a w b5 hF hH
  refine hK _ _ ?_; clear hK K
  refine l_at hF rfl rfl rfl (x_assign rfl) ?_; clear hF; intro a hF
  refine wpList_nil ?_
  refine hK1 _ _ ?_
  refine wp_seq_k fun khK2 hK2 => ?_
  refine wp_seq_k fun khK3 hK3 => ?_
  refine wp_region_lit ?_
  refine l_at hF rfl rfl rfl (x_move (hF.tmp 0 rfl)) ?_; clear hF; intro a hF
  refine l_at hF rfl rfl rfl (x_ptrnil Try.underlying23 (hF.tmp 13 rfl) rfl) ?_; clear hF; intro a hF
  refine l_at hF rfl rfl rfl (x_move (hF.tmp 14 rfl)) ?_; clear hF; intro a hF
  refine l_atg hF ((wanted_of hF rfl rfl rfl rfl).trans rfl) rfl rfl (x_load1 ty3 (hF.tmp 5 rfl) (blk_cell (hH.at 5 rfl) 0 rfl)) ?_; clear hF; intro a hF
  refine l_atg hF ((wanted_of hF rfl rfl rfl rfl).trans rfl) rfl rfl (x_lss (hF.tmp 16 rfl) rfl) ?_; clear hF; intro a hF
  refine l_at hF rfl rfl rfl (x_pickF (hF.tmp 15 rfl) rfl (hF.tmp 17 rfl)) ?_; clear hF; intro a hF
  refine wpList_nil ?_
  refine hK3 _ _ ?_
  refine wp_cond_split (hF.tmp 18 rfl) (fun hc18 => ?_) (fun hc18 => ?_)
  · have hk18_1 := hc18; try simp only [Bool.or_eq_true, Bool.and_eq_true, Bool.or_eq_false_iff, Bool.and_eq_false_iff, Bool.not_eq_true', Bool.not_eq_false', decide_eq_true_eq, decide_eq_false_iff_not, Bool.not_true, Bool.not_false] at hc18
    refine wp_seq_k fun khK4 hK4 => ?_
    refine wp_region_lit ?_
    refine l_at hF rfl rfl rfl (x_assign rfl) ?_; clear hF; intro a hF
    refine wpList_nil ?_
    refine hK4 _ _ ?_
    refine wp_ret ?_
    try simp only [Exit.then, Exit.inBlock]
    have hres : walkL l pre most = [] := (by unfold walkL; rw [if_pos (by omega)])
    exact fin_retM hF (res1 hF rfl rfl) ⟨_, rfl, hH.mods, by rw [hres]; exact RowOut.nil _ _ _ _⟩
  · have hk18_2 := hc18; try simp only [Bool.or_eq_true, Bool.and_eq_true, Bool.or_eq_false_iff, Bool.and_eq_false_iff, Bool.not_eq_true', Bool.not_eq_false', decide_eq_true_eq, decide_eq_false_iff_not, Bool.not_true, Bool.not_false] at hc18
    have hmost : ¬ most < 1 := by first | exact hc18 | omega
    refine wp_skip ?_
    refine hK2 _ _ ?_
    refine wp_seq_k fun khK5 hK5 => ?_
    refine wp_region_lit ?_
    refine l_at hF rfl rfl rfl (x_move (hF.tmp 0 rfl)) ?_; clear hF; intro a hF
    refine l_at hF rfl rfl rfl (x_nil (hF.tmp 19 rfl)) ?_; clear hF; intro a hF
    refine l_at hF rfl rfl rfl (x_faddr Try.underlying58 rfl ty56 (by decide) (hF.tmp 20 rfl) rfl) ?_; clear hF; intro a hF
    refine l_at hF rfl rfl rfl (x_load1 ty56 (hF.tmp 21 rfl) (blk_cell (hH.atro 1 rfl) 0 rfl)) ?_; clear hF; intro a hF
    refine l_at hF rfl rfl rfl (x_move (hF.tmp 1 rfl)) ?_; clear hF; intro a hF
    refine l_at hF rfl rfl rfl (x_assign (hF.tmp 22 rfl)) ?_; clear hF; intro a hF
    refine l_at hF rfl rfl rfl (x_assign (show _ = Value.string (strOfNums ([] : List Int)) by kernel_rfl)) ?_; clear hF; intro a hF
    refine l_at hF rfl rfl rfl (x_assign (hF.tmp 23 rfl)) ?_; clear hF; intro a hF
    refine wpList_nil ?_
    refine hK5 _ _ ?_
    refine wp_seq_k fun khK6 hK6 => ?_
    refine wp_block ?_
    refine wp_loop_ghost (fun n_ a w => ∃ p : TRec, ∃ rest : List Int, n_ = rest.length ∧ (p ∈ S) ∧ (rest ≠ [] → pre = p.path ++ rest) ∧ (rest = [] → underL l pre = underL l p.path) ∧ (Byte rest ∧ rest.length ≤ pre.length) ∧ Fr 82 a [(5, .pointer (some ⟨b5, 0, none⟩)), (7, ptrV p.nb), (8, .string (strOfNums p.path)), (9, .string (strOfNums rest))] ∧ Hp (fun _ => False) w0 w [(1, .ro (.blk tb (.cells #[ptrV p0.nb, .int .i64 (l.length : Int), .int .i64 (S.length : Int)] 58 (0, 0)))), (3, .ro (.arena 62 9 S)), (5, .blk b5 (.cells #[.int .i64 most] 3 (0, 0)))]) (pre.length) ?_ ?_
    · exact ⟨p0, pre, rfl, hp0, (fun _ => by rw [hb0]; rfl), (fun h => by rw [h, hb0]), ⟨hpb, Nat.le_refl _⟩, (by rw [hb0]; exact ((((hF.bare.add hF 9 rfl).add hF 8 rfl).add hF 7 rfl).add hF 5 rfl)), hH.sub _ (sub_cons (sub_cons (sub_cons (sub_nil _) 5 rfl) 3 rfl) 1 rfl)⟩
    · rintro _ a w ⟨p, rest, rfl, hq0_0, hq0_1, hq0_2, hq0_3, hF, hH⟩
      have hrb := hq0_3.1
      have hrl := hq0_3.2
      obtain ⟨bp, hbp, hH⟩ := hH.arRo 3 11 12 14 (by decide) rfl hq0_0
      rw [ptrV_of hbp] at hF
      refine wp_seq_k fun khK7 hK7 => ?_
      refine wp_seq_k fun khK8 hK8 => ?_
      refine wp_region_lit ?_
      refine l_at hF rfl rfl rfl (x_move (hF.tmp 9 rfl)) ?_; clear hF; intro a hF
      refine l_at hF rfl rfl rfl (x_nen0 (xs := rest) (hF.tmp 24 rfl) (show _ = Value.string (strOfNums ([] : List Int)) by kernel_rfl)) ?_; clear hF; intro a hF
      refine wpList_nil ?_
      refine hK8 _ _ ?_
      refine wp_cond_split (hF.tmp 25 rfl) (fun hc25 => ?_) (fun hc25 => ?_)
      · have hk25_3 := hc25; try simp only [Bool.or_eq_true, Bool.and_eq_true, Bool.or_eq_false_iff, Bool.and_eq_false_iff, Bool.not_eq_true', Bool.not_eq_false', decide_eq_true_eq, decide_eq_false_iff_not, Bool.not_true, Bool.not_false] at hc25
        have hrne : rest ≠ [] := by intro e; subst e; exact hc25 rfl
        refine wp_skip ?_
        refine hK7 _ _ ?_
        refine wp_block ?_
        refine wp_seq_k fun khK9 hK9 => ?_
        refine r_start [(11, .ro (.blk bp (.cells #[.string (strOfNums p.lab), .pointer (valA p.val), .map (some p.mb)] 62 (0, 0)))), (12, .ro (.map KB NV p.mb p.kids noB))] (by kernel_rfl) hH fun hH => ?_
        have hS : SL [(11, .ro (.blk bp (.cells #[.string (strOfNums p.lab), .pointer (valA p.val), .map (some p.mb)] 62 (0, 0)))), (12, .ro (.map KB NV p.mb p.kids noB))] _ := SL.of hH (sub_cons (sub_cons (sub_nil _) 12 rfl) 11 rfl)
        refine r_take 0 hF rfl rfl rfl (by kernel_rfl) (by kernel_rfl) (by kernel_rfl) (fun _ _ _ h => h) rfl hS (fun w hS => x_move (hF.tmp 7 rfl)) rfl ?_; clear hF; intro a hF
        refine r_take 1 hF rfl rfl rfl (by kernel_rfl) (by kernel_rfl) (by kernel_rfl) (fun _ _ _ h => h) rfl hS (fun w hS => x_nil (hF.tmp 26 rfl)) rfl ?_; clear hF; intro a hF
        refine r_take 2 hF rfl rfl rfl (by kernel_rfl) (by kernel_rfl) (by kernel_rfl) (fun _ _ _ h => h) rfl hS (fun w hS => x_faddr Try.underlying62 rfl ty60 (by decide) (hF.tmp 27 rfl) rfl) rfl ?_; clear hF; intro a hF
        refine r_take 3 hF rfl rfl rfl (by kernel_rfl) (by kernel_rfl) (by kernel_rfl) (fun _ _ _ h => h) rfl hS (fun w hS => x_load1 ty60 (hF.tmp 28 rfl) (blk_cell (SL.atro hS 11 rfl) 2 rfl)) rfl ?_; clear hF; intro a hF
        refine r_take 4 hF rfl rfl rfl (by kernel_rfl) (by kernel_rfl) (by kernel_rfl) (fun _ _ _ h => h) rfl hS (fun w hS => x_move (hF.tmp 9 rfl)) rfl ?_; clear hF; intro a hF
        refine r_take 5 hF rfl rfl rfl (by kernel_rfl) (by kernel_rfl) (by kernel_rfl) (fun _ _ _ h => h) rfl hS (fun w hS => x_idxS (xs := rest) Try.underlying9 (hF.tmp 30 rfl) rfl (by assumption) (by omega) (by omega)) rfl ?_; clear hF; intro a hF
        refine r_take 6 hF rfl rfl rfl (by kernel_rfl) (by kernel_rfl) (by kernel_rfl) (fun _ _ _ h => h) rfl hS (fun w hS => x_lookF (enc := ptrV) (x0 := 0) (k := (gi rest 0)) (hS 12 _ rfl) Try.underlying60 Try.underlying5 (ty56).zero (hF.tmp 29 rfl) (hF.tmp 31 rfl)) rfl ?_; clear hF; intro a hF
        refine r_take 7 hF rfl rfl rfl (by kernel_rfl) (by kernel_rfl) (by kernel_rfl) (fun _ _ _ h => h) rfl hS (fun w hS => x_assign (hF.tmp 32 rfl)) rfl ?_; clear hF; intro a hF
        refine r_end (by kernel_rfl) ?_; clear hS
        refine hK9 _ _ ?_
        refine wp_seq_k fun khK10 hK10 => ?_
        refine wp_seq_k fun khK11 hK11 => ?_
        refine r_start [(11, .ro (.blk bp (.cells #[.string (strOfNums p.lab), .pointer (valA p.val), .map (some p.mb)] 62 (0, 0))))] (by kernel_rfl) hH fun hH => ?_
        have hS : SL [(11, .ro (.blk bp (.cells #[.string (strOfNums p.lab), .pointer (valA p.val), .map (some p.mb)] 62 (0, 0))))] _ := SL.of hH (sub_cons (sub_nil _) 11 rfl)
        refine r_take 0 hF rfl rfl rfl (by kernel_rfl) (by kernel_rfl) (by kernel_rfl) (fun _ _ _ h => h) rfl hS (fun w hS => x_move (hF.tmp 10 rfl)) rfl ?_; clear hF; intro a hF
        refine r_take 1 hF rfl rfl rfl (by kernel_rfl) (by kernel_rfl) (by kernel_rfl) (fun _ _ _ h => h) rfl hS (fun w hS => x_ptrnil (pa := (ptrA ((al p.kids (gi rest 0)).getD 0))) Try.underlying56 (hF.tmp 33 rfl) rfl) rfl ?_; clear hF; intro a hF
        refine r_take 2 hF rfl rfl rfl (by kernel_rfl) (by kernel_rfl) (by kernel_rfl) (fun _ _ _ h => h) rfl hS (fun w hS => x_move (hF.tmp 34 rfl)) rfl ?_; clear hF; intro a hF
        refine split_bool hF 35 rfl (fun hb35 => ?_) (fun hb35 => ?_)
        · have hc35 := hb35; try simp only [Bool.or_eq_true, Bool.and_eq_true, Bool.or_eq_false_iff, Bool.and_eq_false_iff, Bool.not_eq_true', Bool.not_eq_false', decide_eq_true_eq, decide_eq_false_iff_not, Bool.not_true, Bool.not_false] at hc35
          have hkn := hw.kidNone hq0_0 hpos hc35
          refine r_off 3 hF rfl rfl rfl (by kernel_rfl) (by kernel_rfl) (by kernel_rfl) (fun _ _ _ h => h) ((wanted_of hF rfl rfl rfl rfl).trans (by rw [hb35]; rfl)) hS rfl ?_; clear hF; intro a hF
          refine r_off 4 hF rfl rfl rfl (by kernel_rfl) (by kernel_rfl) (by kernel_rfl) (fun _ _ _ h => h) ((wanted_of hF rfl rfl rfl rfl).trans (by rw [hb35]; rfl)) hS rfl ?_; clear hF; intro a hF
          refine r_off 5 hF rfl rfl rfl (by kernel_rfl) (by kernel_rfl) (by kernel_rfl) (fun _ _ _ h => h) ((wanted_of hF rfl rfl rfl rfl).trans (by rw [hb35]; rfl)) hS rfl ?_; clear hF; intro a hF
          refine r_off 6 hF rfl rfl rfl (by kernel_rfl) (by kernel_rfl) (by kernel_rfl) (fun _ _ _ h => h) ((wanted_of hF rfl rfl rfl rfl).trans (by rw [hb35]; rfl)) hS rfl ?_; clear hF; intro a hF
          refine r_off 7 hF rfl rfl rfl (by kernel_rfl) (by kernel_rfl) (by kernel_rfl) (fun _ _ _ h => h) ((wanted_of hF rfl rfl rfl rfl).trans (by rw [hb35]; rfl)) hS rfl ?_; clear hF; intro a hF
          refine r_off 8 hF rfl rfl rfl (by kernel_rfl) (by kernel_rfl) (by kernel_rfl) (fun _ _ _ h => h) ((wanted_of hF rfl rfl rfl rfl).trans (by rw [hb35]; rfl)) hS rfl ?_; clear hF; intro a hF
          refine r_off 9 hF rfl rfl rfl (by kernel_rfl) (by kernel_rfl) (by kernel_rfl) (fun _ _ _ h => h) ((wanted_of hF rfl rfl rfl rfl).trans (by rw [hb35]; rfl)) hS rfl ?_; clear hF; intro a hF
          refine r_off 10 hF rfl rfl rfl (by kernel_rfl) (by kernel_rfl) (by kernel_rfl) (fun _ _ _ h => h) ((wanted_of hF rfl rfl rfl rfl).trans (by rw [hb35]; rfl)) hS rfl ?_; clear hF; intro a hF
          refine r_off 11 hF rfl rfl rfl (by kernel_rfl) (by kernel_rfl) (by kernel_rfl) (fun _ _ _ h => h) ((wanted_of hF rfl rfl rfl rfl).trans (by rw [hb35]; rfl)) hS rfl ?_; clear hF; intro a hF
          refine r_off 12 hF rfl rfl rfl (by kernel_rfl) (by kernel_rfl) (by kernel_rfl) (fun _ _ _ h => h) ((wanted_of hF rfl rfl rfl rfl).trans (by rw [hb35]; rfl)) hS rfl ?_; clear hF; intro a hF
          refine r_off 13 hF rfl rfl rfl (by kernel_rfl) (by kernel_rfl) (by kernel_rfl) (fun _ _ _ h => h) ((wanted_of hF rfl rfl rfl rfl).trans (by rw [hb35]; rfl)) hS rfl ?_; clear hF; intro a hF
          refine r_off 14 hF rfl rfl rfl (by kernel_rfl) (by kernel_rfl) (by kernel_rfl) (fun _ _ _ h => h) ((wanted_of hF rfl rfl rfl rfl).trans (by rw [hb35]; rfl)) hS rfl ?_; clear hF; intro a hF
          refine r_off 15 hF rfl rfl rfl (by kernel_rfl) (by kernel_rfl) (by kernel_rfl) (fun _ _ _ h => h) ((wanted_of hF rfl rfl rfl rfl).trans (by rw [hb35]; rfl)) hS rfl ?_; clear hF; intro a hF
          refine r_off 16 hF rfl rfl rfl (by kernel_rfl) (by kernel_rfl) (by kernel_rfl) (fun _ _ _ h => h) ((wanted_of hF rfl rfl rfl rfl).trans (by rw [hb35]; rfl)) hS rfl ?_; clear hF; intro a hF
          refine r_off 17 hF rfl rfl rfl (by kernel_rfl) (by kernel_rfl) (by kernel_rfl) (fun _ _ _ h => h) ((wanted_of hF rfl rfl rfl rfl).trans (by rw [hb35]; rfl)) hS rfl ?_; clear hF; intro a hF
          refine r_take 18 hF rfl rfl rfl (by kernel_rfl) (by kernel_rfl) (by kernel_rfl) (fun _ _ _ h => h) rfl hS (fun w hS => x_pickT (hF.tmp 35 rfl) hb35 rfl) rfl ?_; clear hF; intro a hF
          refine r_end (by kernel_rfl) ?_; clear hS
          refine hK11 _ _ ?_
          refine wp_cond_true (hF.tmp 51 rfl) ?_
          refine wp_seq_k fun khK12 hK12 => ?_
          refine wp_region_lit ?_
          refine l_at hF rfl rfl rfl (x_assign rfl) ?_; clear hF; intro a hF
          refine wpList_nil ?_
          refine hK12 _ _ ?_
          refine wp_ret ?_
          try simp only [Exit.then, Exit.inBlock]
          have hres : walkL l pre most = [] := walk_nil (by rw [hq0_1 hrne]; exact under_none he hw hq0_0 (head_gi (by omega)) hkn)
          exact fin_retM hF (res1 hF rfl rfl) ⟨_, rfl, hH.mods, by rw [hres]; exact RowOut.nil _ _ _ _⟩
        · have hc35 := hb35; try simp only [Bool.or_eq_true, Bool.and_eq_true, Bool.or_eq_false_iff, Bool.and_eq_false_iff, Bool.not_eq_true', Bool.not_eq_false', decide_eq_true_eq, decide_eq_false_iff_not, Bool.not_true, Bool.not_false] at hc35
          obtain ⟨q, hq, hkq⟩ := hw.kidSome hq0_0 hc35
          obtain ⟨bq, hbq, hH⟩ := hH.arRo 3 21 22 24 (by decide) rfl hq
          rw [kidV hkq hbq] at hF
          have hqb := hw.byte q hq
          have hpb9 := hw.byte p hq0_0
          have hql := kid_len hw hq0_0 hq hkq
          refine r_take 3 hF rfl rfl rfl (by kernel_rfl) (by kernel_rfl) (by kernel_rfl) (fun _ _ _ h => h) ((wanted_of hF rfl rfl rfl rfl).trans (by rw [hb35]; rfl)) hS (fun w hS => x_move (hF.tmp 9 rfl)) rfl ?_; clear hF; intro a hF
          refine r_more [(21, .ro (.blk bq (.cells #[.string (strOfNums q.lab), .pointer (valA q.val), .map (some q.mb)] 62 (0, 0)))), (11, .ro (.blk bp (.cells #[.string (strOfNums p.lab), .pointer (valA p.val), .map (some p.mb)] 62 (0, 0))))] (sub_cons (sub_nil _) 11 rfl) ?_
          clear hS; have hS : SL [(21, .ro (.blk bq (.cells #[.string (strOfNums q.lab), .pointer (valA q.val), .map (some q.mb)] 62 (0, 0)))), (11, .ro (.blk bp (.cells #[.string (strOfNums p.lab), .pointer (valA p.val), .map (some p.mb)] 62 (0, 0))))] _ := SL.of hH (sub_cons (sub_cons (sub_nil _) 11 rfl) 21 rfl)
          refine r_take 4 hF rfl rfl rfl (by kernel_rfl) (by kernel_rfl) (by kernel_rfl) (fun _ _ _ h => h) ((wanted_of hF rfl rfl rfl rfl).trans (by rw [hb35]; rfl)) hS (fun w hS => x_move (hF.tmp 10 rfl)) rfl ?_; clear hF; intro a hF
          refine r_take 5 hF rfl rfl rfl (by kernel_rfl) (by kernel_rfl) (by kernel_rfl) (fun _ _ _ h => h) ((wanted_of hF rfl rfl rfl rfl).trans (by rw [hb35]; rfl)) hS (fun w hS => x_nil (hF.tmp 37 rfl)) rfl ?_; clear hF; intro a hF
          refine r_take 6 hF rfl rfl rfl (by kernel_rfl) (by kernel_rfl) (by kernel_rfl) (fun _ _ _ h => h) ((wanted_of hF rfl rfl rfl rfl).trans (by rw [hb35]; rfl)) hS (fun w hS => x_faddr Try.underlying62 rfl ty9 (by decide) (hF.tmp 38 rfl) rfl) rfl ?_; clear hF; intro a hF
          refine r_take 7 hF rfl rfl rfl (by kernel_rfl) (by kernel_rfl) (by kernel_rfl) (fun _ _ _ h => h) ((wanted_of hF rfl rfl rfl rfl).trans (by rw [hb35]; rfl)) hS (fun w hS => x_load1 ty9 (hF.tmp 39 rfl) (blk_cell (SL.atro hS 21 rfl) 0 rfl)) rfl ?_; clear hF; intro a hF
          refine r_take 9 hF rfl rfl rfl (by kernel_rfl) (by kernel_rfl) (by kernel_rfl) (fun _ _ _ h => h) ((wanted_of hF rfl rfl rfl rfl).trans (by rw [hb35]; rfl)) hS (fun w hS => x_move (hF.tmp 9 rfl)) rfl ?_; clear hF; intro a hF
          refine r_take 10 hF rfl rfl rfl (by kernel_rfl) (by kernel_rfl) (by kernel_rfl) (fun _ _ _ h => h) ((wanted_of hF rfl rfl rfl rfl).trans (by rw [hb35]; rfl)) hS (fun w hS => x_len_sn (xs := rest) Try.underlying9 (hF.tmp 42 rfl)) rfl ?_; clear hF; intro a hF
          refine r_take 11 hF rfl rfl rfl (by kernel_rfl) (by kernel_rfl) (by kernel_rfl) (fun _ _ _ h => h) ((wanted_of hF rfl rfl rfl rfl).trans (by rw [hb35]; rfl)) hS (fun w hS => x_move (hF.tmp 10 rfl)) rfl ?_; clear hF; intro a hF
          refine r_take 12 hF rfl rfl rfl (by kernel_rfl) (by kernel_rfl) (by kernel_rfl) (fun _ _ _ h => h) ((wanted_of hF rfl rfl rfl rfl).trans (by rw [hb35]; rfl)) hS (fun w hS => x_nil (hF.tmp 44 rfl)) rfl ?_; clear hF; intro a hF
          refine r_take 13 hF rfl rfl rfl (by kernel_rfl) (by kernel_rfl) (by kernel_rfl) (fun _ _ _ h => h) ((wanted_of hF rfl rfl rfl rfl).trans (by rw [hb35]; rfl)) hS (fun w hS => x_faddr Try.underlying62 rfl ty9 (by decide) (hF.tmp 45 rfl) rfl) rfl ?_; clear hF; intro a hF
          refine r_take 14 hF rfl rfl rfl (by kernel_rfl) (by kernel_rfl) (by kernel_rfl) (fun _ _ _ h => h) ((wanted_of hF rfl rfl rfl rfl).trans (by rw [hb35]; rfl)) hS (fun w hS => x_load1 ty9 (hF.tmp 46 rfl) (blk_cell (SL.atro hS 21 rfl) 0 rfl)) rfl ?_; clear hF; intro a hF
          refine r_take 15 hF rfl rfl rfl (by kernel_rfl) (by kernel_rfl) (by kernel_rfl) (fun _ _ _ h => h) ((wanted_of hF rfl rfl rfl rfl).trans (by rw [hb35]; rfl)) hS (fun w hS => x_len_sn (xs := q.lab) Try.underlying9 (hF.tmp 47 rfl)) rfl ?_; clear hF; intro a hF
          refine r_take 16 hF rfl rfl rfl (by kernel_rfl) (by kernel_rfl) (by kernel_rfl) (fun _ _ _ h => h) ((wanted_of hF rfl rfl rfl rfl).trans (by rw [hb35]; rfl)) hS (fun w hS => x_min2 (hF.tmp 43 rfl) (hF.tmp 48 rfl)) rfl ?_; clear hF; intro a hF
          refine r_do 8 rfl (by kernel_rfl) ((wanted_of hF rfl rfl rfl rfl).trans (by rw [hb35]; rfl)) rfl ?_
          refine w_call hF (x_enter Try.func28 (by kernel_rfl) rfl (by simp only [List.map_toArray, List.map_cons, List.map_nil, hF.tmp 36 rfl, hF.tmp 40 rfl] <;> rfl)) (common_calls _ hrb (hw.byte q hq).2.2.1 (by omega) (Nat.le_trans (hw.byte q hq).2.2.2 (by decide))) rfl rfl ?_
          rintro _ w ⟨rfl, hm_⟩; refine ⟨_, rfl, ?_⟩; clear hF; intro a hF; have hH := hH.same hm_
          clear hS; have hS : SL _ _ := SL.of hH (sub_cons (sub_cons (sub_nil _) 11 rfl) 21 rfl); refine ⟨hS, ?_⟩
          refine r_take 17 hF rfl rfl rfl (by kernel_rfl) (by kernel_rfl) (by kernel_rfl) (fun _ _ _ h => h) ((wanted_of hF rfl rfl rfl rfl).trans (by rw [hb35]; rfl)) hS (fun w hS => x_lss (hF.tmp 41 rfl) (hF.tmp 49 rfl)) rfl ?_; clear hF; intro a hF
          refine r_take 18 hF rfl rfl rfl (by kernel_rfl) (by kernel_rfl) (by kernel_rfl) (fun _ _ _ h => h) rfl hS (fun w hS => x_pickF (hF.tmp 35 rfl) hb35 (hF.tmp 50 rfl)) rfl ?_; clear hF; intro a hF
          refine r_end (by kernel_rfl) ?_; clear hS
          refine hK11 _ _ ?_
          refine wp_cond_split (hF.tmp 51 rfl) (fun hc51 => ?_) (fun hc51 => ?_)
          · have hk51_4 := hc51; try simp only [Bool.or_eq_true, Bool.and_eq_true, Bool.or_eq_false_iff, Bool.and_eq_false_iff, Bool.not_eq_true', Bool.not_eq_false', decide_eq_true_eq, decide_eq_false_iff_not, Bool.not_true, Bool.not_false] at hc51
            refine wp_seq_k fun khK13 hK13 => ?_
            refine wp_region_lit ?_
            refine l_at hF rfl rfl rfl (x_assign rfl) ?_; clear hF; intro a hF
            refine wpList_nil ?_
            refine hK13 _ _ ?_
            refine wp_ret ?_
            try simp only [Exit.then, Exit.inBlock]
            have hres : walkL l pre most = [] := walk_nil (by rw [hq0_1 hrne]; exact under_odd he hw hq0_0 hq (head_gi (by omega)) hkq (walk_odd hc51))
            exact fin_retM hF (res1 hF rfl rfl) ⟨_, rfl, hH.mods, by rw [hres]; exact RowOut.nil _ _ _ _⟩
          · have hk51_5 := hc51; try simp only [Bool.or_eq_true, Bool.and_eq_true, Bool.or_eq_false_iff, Bool.and_eq_false_iff, Bool.not_eq_true', Bool.not_eq_false', decide_eq_true_eq, decide_eq_false_iff_not, Bool.not_true, Bool.not_false] at hc51
            have heven := walk_even hc51
            refine wp_skip ?_
            refine hK10 _ _ ?_
            refine wp_seq_k fun khK14 hK14 => ?_
            refine wp_region_lit ?_
            refine l_at hF rfl rfl rfl (x_move (hF.tmp 8 rfl)) ?_; clear hF; intro a hF
            refine l_at hF rfl rfl rfl (x_move (hF.tmp 10 rfl)) ?_; clear hF; intro a hF
            refine l_at hF rfl rfl rfl (x_nil (hF.tmp 53 rfl)) ?_; clear hF; intro a hF
            refine l_at hF rfl rfl rfl (x_faddr Try.underlying62 rfl ty9 (by decide) (hF.tmp 54 rfl) rfl) ?_; clear hF; intro a hF
            refine l_at hF rfl rfl rfl (x_load1 ty9 (hF.tmp 55 rfl) (blk_cell (hH.atro 21 rfl) 0 rfl)) ?_; clear hF; intro a hF
            refine l_at hF rfl rfl rfl (x_adds (xs := p.path) (ys := q.lab) (hF.tmp 52 rfl) (hF.tmp 56 rfl) (by omega)) ?_; clear hF; intro a hF
            refine l_at hF rfl rfl rfl (x_assign (hF.tmp 57 rfl)) ?_; clear hF; intro a hF
            refine wpList_nil ?_
            refine hK14 _ _ ?_
            refine r_start [(21, .ro (.blk bq (.cells #[.string (strOfNums q.lab), .pointer (valA q.val), .map (some q.mb)] 62 (0, 0))))] (by kernel_rfl) hH fun hH => ?_
            have hS : SL [(21, .ro (.blk bq (.cells #[.string (strOfNums q.lab), .pointer (valA q.val), .map (some q.mb)] 62 (0, 0))))] _ := SL.of hH (sub_cons (sub_nil _) 21 rfl)
            refine r_take 0 hF rfl rfl rfl (by kernel_rfl) (by kernel_rfl) (by kernel_rfl) (fun _ _ _ h => h) rfl hS (fun w hS => x_move (hF.tmp 10 rfl)) rfl ?_; clear hF; intro a hF
            refine r_take 1 hF rfl rfl rfl (by kernel_rfl) (by kernel_rfl) (by kernel_rfl) (fun _ _ _ h => h) rfl hS (fun w hS => x_move (hF.tmp 9 rfl)) rfl ?_; clear hF; intro a hF
            refine r_take 2 hF rfl rfl rfl (by kernel_rfl) (by kernel_rfl) (by kernel_rfl) (fun _ _ _ h => h) rfl hS (fun w hS => x_move (hF.tmp 9 rfl)) rfl ?_; clear hF; intro a hF
            refine r_take 3 hF rfl rfl rfl (by kernel_rfl) (by kernel_rfl) (by kernel_rfl) (fun _ _ _ h => h) rfl hS (fun w hS => x_len_sn (xs := rest) Try.underlying9 (hF.tmp 60 rfl)) rfl ?_; clear hF; intro a hF
            refine r_take 4 hF rfl rfl rfl (by kernel_rfl) (by kernel_rfl) (by kernel_rfl) (fun _ _ _ h => h) rfl hS (fun w hS => x_move (hF.tmp 10 rfl)) rfl ?_; clear hF; intro a hF
            refine r_take 5 hF rfl rfl rfl (by kernel_rfl) (by kernel_rfl) (by kernel_rfl) (fun _ _ _ h => h) rfl hS (fun w hS => x_nil (hF.tmp 62 rfl)) rfl ?_; clear hF; intro a hF
            refine r_take 6 hF rfl rfl rfl (by kernel_rfl) (by kernel_rfl) (by kernel_rfl) (fun _ _ _ h => h) rfl hS (fun w hS => x_faddr Try.underlying62 rfl ty9 (by decide) (hF.tmp 63 rfl) rfl) rfl ?_; clear hF; intro a hF
            refine r_take 7 hF rfl rfl rfl (by kernel_rfl) (by kernel_rfl) (by kernel_rfl) (fun _ _ _ h => h) rfl hS (fun w hS => x_load1 ty9 (hF.tmp 64 rfl) (blk_cell (SL.atro hS 21 rfl) 0 rfl)) rfl ?_; clear hF; intro a hF
            refine r_take 8 hF rfl rfl rfl (by kernel_rfl) (by kernel_rfl) (by kernel_rfl) (fun _ _ _ h => h) rfl hS (fun w hS => x_len_sn (xs := q.lab) Try.underlying9 (hF.tmp 65 rfl)) rfl ?_; clear hF; intro a hF
            refine r_take 9 hF rfl rfl rfl (by kernel_rfl) (by kernel_rfl) (by kernel_rfl) (fun _ _ _ h => h) rfl hS (fun w hS => x_min2 (hF.tmp 61 rfl) (hF.tmp 66 rfl)) rfl ?_; clear hF; intro a hF
            refine r_take 10 hF rfl rfl rfl (by kernel_rfl) (by kernel_rfl) (by kernel_rfl) (fun _ _ _ h => h) rfl hS (fun w hS => x_sliceSl (xs := rest) Try.underlying9 (hF.tmp 59 rfl) (hF.tmp 67 rfl) (by unfold mn; split <;> omega) (by unfold mn; split <;> omega)) rfl ?_; clear hF; intro a hF
            rw [mn_nat] at hF
            refine r_take 11 hF rfl rfl rfl (by kernel_rfl) (by kernel_rfl) (by kernel_rfl) (fun _ _ _ h => h) rfl hS (fun w hS => x_assign (hF.tmp 58 rfl)) rfl ?_; clear hF; intro a hF
            refine r_take 12 hF rfl rfl rfl (by kernel_rfl) (by kernel_rfl) (by kernel_rfl) (fun _ _ _ h => h) rfl hS (fun w hS => x_assign (hF.tmp 68 rfl)) rfl ?_; clear hF; intro a hF
            refine r_end (by kernel_rfl) ?_; clear hS
            rw [← ptrV_of hbq] at hF
            rw [← (hw.kid' hq0_0 hq hkq).1] at hF
            exact ⟨_, (by rw [List.length_drop]; omega), ⟨q, rest.drop (min rest.length q.lab.length), rfl, hq, (fun h => walk_key hw hq0_0 hq hkq (hq0_1 hrne) heven h), (fun h => walk_under he hw hq0_0 hq (head_gi (by omega)) hkq (hq0_1 hrne) heven h), ⟨hrb.drop _, by rw [List.length_drop]; omega⟩, ((((hF.bare.add hF 9 rfl).add hF 8 rfl).add hF 7 rfl).add hF 5 rfl), hH.sub _ (sub_cons (sub_cons (sub_cons (sub_nil _) 5 rfl) 3 rfl) 1 rfl)⟩⟩
      · have hk25_6 := hc25; try simp only [Bool.or_eq_true, Bool.and_eq_true, Bool.or_eq_false_iff, Bool.and_eq_false_iff, Bool.not_eq_true', Bool.not_eq_false', decide_eq_true_eq, decide_eq_false_iff_not, Bool.not_true, Bool.not_false] at hc25
        obtain rfl := List.length_eq_zero_iff.1 hc25
        have hund := hq0_2 rfl
        refine wp_exit ?_
        refine hK6 _ _ ?_
        refine wp_seq_k fun khK15 hK15 => ?_
        refine wp_region_lit ?_
        refine wpList_plain rfl fun K hK => ?_
        refine w_alloc 91 hF hH rfl ty25 ?_
        clear hF hH; intro a w b11 hF hH
        refine hK _ _ ?_; clear hK K
        refine wpList_nil ?_
        refine hK15 _ _ ?_
        refine wp_seq_k fun khK16 hK16 => ?_
        refine wp_seq_k fun khK17 hK17 => ?_
        refine wp_region_lit ?_
        refine l_at hF rfl rfl rfl (x_move (hF.tmp 7 rfl)) ?_; clear hF; intro a hF
        refine l_at hF rfl rfl rfl (x_move (hF.tmp 8 rfl)) ?_; clear hF; intro a hF
        rw [← ptrV_of hbp] at hF
        refine wpList_plain rfl fun K hK => ?_
        refine w_call hF (x_enter Try.func29 (by kernel_rfl) rfl (by simp only [List.map_toArray, List.map_cons, List.map_nil, hF.tmp 69 rfl, hF.tmp 70 rfl] <;> rfl)) (each_calls _ p.nb p.path) rfl rfl ?_
        rintro _ w ⟨bn2, bk2, rfl, hL_⟩; refine ⟨_, rfl, ?_⟩; clear hF; intro a hF; have hH := ((hH.merge hL_.mods hL_ (rdin_cons (fun k h => h.elim) (rdin_cons (fun k h => h.elim) rdin_nil))).roAny 51 rfl).roAny 52 rfl
        refine hK _ _ ?_; clear hK K
        refine wpList_nil ?_
        refine hK17 _ _ ?_
        refine wp_block ?_
        have hH := hH.row0 55 TentE 30
        refine wp_rangeM hF hH 100 101 (hF.tmp 71 rfl) Try.func35 (by kernel_rfl) rfl ?_
        intro r l2 bk9 w hr hl9 hH0; clear hH
        have hH9 := (hH0.addro 2 (.ro (.blk bk2 (.cells #[.string (strOfNums p.path)] 9 (0, 0)))) (fun k h => h) (hH0.holds 52 _ rfl) (fun k hk => ⟨52, _, rfl, hk⟩)).addro 1 (.ro (.blk bn2 (.cells #[ptrV p.nb] 56 (0, 0)))) (fun k h => h) (hH0.holds 51 _ rfl) (fun k hk => ⟨51, _, rfl, hk⟩)
        have hLI2 : (Asn.all [(1, .ro (.blk bn2 (.cells #[ptrV p.nb] 56 (0, 0)))), (2, .ro (.blk bk2 (.cells #[.string (strOfNums p.path)] 9 (0, 0)))), (3, .ro (.arena 62 9 S))]).holds w := (hH9.sub _ (sub_cons (sub_cons (sub_cons (sub_nil _) 3 rfl) 2 rfl) 1 rfl)).asAll
        have hFD := hF.defer [{ target := .collected bk9, args := #[] }]
        refine Calls.mono (each_tells hw he hkm 1000001 w p bn2 bk2 hLI2 hq0_0 (by omega) l2 (fun (pre : List Ent) (Y : Asn) => ∃ (Av : Option Addr) (cv : Nat), Y = Asn.all [(100, .blk l2 (.loop r)), (5, .blk b5 (.cells #[.int .i64 most] 3 (0, 0))), (91, .blk b11 (.cells #[.slice Av pre.length cv] 25 (0, 0))), (55, .row TentE 30 (.slice Av pre.length cv) pre (fun _ => False))] ∧ (pre.length : Int) < most) (fun (pre : List Ent) (Y : Asn) => ∃ (Av : Option Addr) (cv : Nat), Y = Asn.all [(100, .blk l2 (.loop ({ r with state := .done, pending := some (.exit 2) }))), (5, .blk b5 (.cells #[.int .i64 most] 3 (0, 0))), (91, .blk b11 (.cells #[.slice Av pre.length cv] 25 (0, 0))), (55, .row TentE 30 (.slice Av pre.length cv) pre (fun _ => False))] ∧ (pre.length : Int) = most) (Asn.all [(100, .blk l2 (.loop r)), (5, .blk b5 (.cells #[.int .i64 most] 3 (0, 0))), (91, .blk b11 (.cells #[.slice none ([] : List Ent).length 0] 25 (0, 0))), (55, .row TentE 30 (.slice none ([] : List Ent).length 0) ([] : List Ent) (fun _ => False))]) (hH9.sub _ (sub_cons (sub_cons (sub_cons (sub_cons (sub_nil _) 55 rfl) 91 rfl) 5 rfl) 100 rfl)).okAll (hH9.apart (sub_cons (sub_cons (sub_cons (sub_nil _) 3 rfl) 2 rfl) 1 rfl) (sub_cons (sub_cons (sub_cons (sub_cons (sub_nil _) 55 rfl) 91 rfl) 5 rfl) 100 rfl) (apart_cons rfl (apart_cons rfl (apart_cons rfl (apart_nil _))))) (fun k hk h => hH9.apart (sub_cons (sub_cons (sub_cons (sub_cons (sub_nil _) 55 rfl) 91 rfl) 5 rfl) 100 rfl) (sub_cons (sub_cons (sub_cons (sub_nil _) 3 rfl) 2 rfl) 1 rfl) (apart_cons rfl (apart_cons rfl (apart_cons rfl (apart_cons rfl (apart_nil _))))) k h (.inr hk)) ?_ ⟨none, 0, rfl, by simp only [List.length_nil]; omega⟩) ?_
        ·
          rintro pre9 ⟨ek, ev⟩ Xx w1 args rdY ⟨xs, rfl, hpre⟩ ⟨Av, cv, rfl, hlt⟩ hXok ⟨rfl, hrdY⟩ _
          have hlen : pre9.length < 4000000 := by have h1 := hpre.length_le; have h2 := List.length_filter_le (fun e : Ent => decide (p.path <+: e.1)) l; rw [List.length_append, List.length_singleton] at h1; unfold underL at h1; omega
          refine round_walk (ll := 100) hXok.holds rfl hr ?_
          have hH := Hp.ofAll hXok.holds
          have hF := hF.roundD 72 (.agg #[.string (strOfNums ek), .string (strOfNums ev)]) rfl
          generalize ({ tmps := _, defers := [] } : Act) = a at hF ⊢
          have hF : Fr 82 a [(72, .agg #[.string (strOfNums ek), .string (strOfNums ev)]), (11, .pointer (some ⟨b11, 0, none⟩)), (5, .pointer (some ⟨b5, 0, none⟩))] := (((hF.bare.add hF 5 rfl).add hF 11 rfl).add hF 72 rfl)
          refine region_in (by repeat (first | exact no_round | exact no_false | apply no_then | apply no_block)) rfl ?_
          refine wpList_plain rfl fun K hK => ?_
          refine w_alloc 12 hF hH rfl ty30 ?_
          clear hF hH; intro a w b12 hF hH
          refine hK _ _ ?_; clear hK K
          refine wpList_plain rfl fun K hK => ?_
          refine w_storeA 12 hH ty30 rfl (hF.tmp 12 rfl) (hF.tmp 72 rfl) rfl (by simp [Value.cells, Value.oneCell']) rfl ?_
          clear hH; intro w hH
          refine hK _ _ ?_; clear hK K
          refine wpList_nil ?_
          try simp only [Exit.then, Exit.inBlock]
          refine begin_round hH 100 rfl hr.state fun w hH => ?_
          refine wpIn_block ?_
          refine wpIn_seq_k fun khK18 hK18 => ?_
          refine region_in (by repeat (first | exact no_round | exact no_false | apply no_then | apply no_block)) rfl ?_
          refine l_at hF rfl rfl rfl (x_load1 ty25 (hF.tmp 11 rfl) (blk_cell (hH.at 91 rfl) 0 rfl)) ?_; clear hF; intro a hF
          refine l_at hF rfl rfl rfl (x_loadn ty30 (hF.tmp 12 rfl) rfl (blk_whole (hH.at 12 rfl))) ?_; clear hF; intro a hF
          refine wpList_plain rfl fun K hK => ?_
          refine w_lit1 75 TentE ((ek, ev) : EntT) #[.string (strOfNums ek), .string (strOfNums ev)] (fun _ => False) hF hH rfl Try.underlying25 ty30 (by simp only [List.map_toArray, List.map_cons, List.map_nil, hF.tmp 74 rfl] <;> rfl) (by decide) (by kernel_rfl) (tent_mk ((ek, ev) : EntT)) (fun kb hk => hk.elim) ?_
          clear hF hH; intro a w b75 hF hb75_ hH
          refine hK _ _ ?_; clear hK K
          refine wpList_plain rfl fun K hK => ?_
          refine w_append 55 75 (xs := pre9) (ys := ([((ek, ev) : EntT)])) hF hH rfl Try.underlying25 ty30 rfl rfl rfl rfl ((hH.rd 75 rfl)) (by intro k_ hk_; exact .inr hk_) (hF.tmp 73 rfl) (hF.tmp 75 rfl) (by simp only [List.length_cons, List.length_nil]; omega) (by simp only [List.length_cons, List.length_nil, maxLen]; omega) (fun _ => False) (fun w' v' h => tent_any h) (fun k_ hk_ => hk_.elim) ?_
          clear hF hH; intro a w v76 hF hH
          refine hK _ _ ?_; clear hK K
          obtain ⟨A76, c76, rfl⟩ := (hH.row 55 rfl).form
          refine wpList_plain rfl fun K hK => ?_
          refine w_store 91 hH ty25 rfl (hF.tmp 11 rfl) (hF.tmp 76 rfl) rfl (one1 rfl rfl) (by first | decide | exact Nat.le_of_ble_eq_true rfl) ?_
          clear hH; intro w hH
          refine hK _ _ ?_; clear hK K
          refine wpList_nil ?_
          refine hK18 _ _ ?_
          refine wpIn_seq_k fun khK19 hK19 => ?_
          refine region_in (by repeat (first | exact no_round | exact no_false | apply no_then | apply no_block)) rfl ?_
          refine l_at hF rfl rfl rfl (x_load1 ty25 (hF.tmp 11 rfl) (blk_cell (hH.at 91 rfl) 0 rfl)) ?_; clear hF; intro a hF
          refine l_at hF rfl rfl rfl (x_len_slice Try.underlying25 (hF.tmp 77 rfl)) ?_; clear hF; intro a hF
          refine l_at hF rfl rfl rfl (x_load1 ty3 (hF.tmp 5 rfl) (blk_cell (hH.at 5 rfl) 0 rfl)) ?_; clear hF; intro a hF
          refine l_at hF rfl rfl rfl (x_eql (hF.tmp 78 rfl) (hF.tmp 79 rfl)) ?_; clear hF; intro a hF
          refine wpList_nil ?_
          refine hK19 _ _ ?_
          refine wpIn_cond_split (hF.tmp 80 rfl) (fun hc80 => ?_) (fun hc80 => ?_)
          · have hk80_7 := hc80; try simp only [Bool.or_eq_true, Bool.and_eq_true, Bool.or_eq_false_iff, Bool.and_eq_false_iff, Bool.not_eq_true', Bool.not_eq_false', decide_eq_true_eq, decide_eq_false_iff_not, Bool.not_true, Bool.not_false] at hc80
            refine wpIn_exit ?_
            simp only [Exit.then, Exit.inBlock]
            try rw [if_neg (by decide)]
            refine end_exit hH 100 rfl fun w hH => ?_
            have hh := hH.sub [(100, .blk l2 (.loop ({ r with state := .done, pending := some (.exit 2) }))), (5, .blk b5 (.cells #[.int .i64 most] 3 (0, 0))), (91, .blk b11 (.cells #[.slice A76 (pre9 ++ [(ek, ev)]).length c76] 25 (0, 0))), (55, .row TentE 30 (.slice A76 (pre9 ++ [(ek, ev)]).length c76) (pre9 ++ [(ek, ev)]) (fun _ => False))] (sub_cons (sub_cons (sub_cons (sub_cons (sub_nil _) 55 rfl) 91 rfl) 5 rfl) 100 rfl)
            exact ⟨false, _, rfl, ⟨_, _, rfl, hc80⟩, grew_of hh (rdin_cons (fun k h => h.elim) (rdin_cons (fun k h => h.elim) (rdin_cons (fun k h => h.elim) (rdin_cons (fun k h => h.elim) rdin_nil))))⟩
          · have hk80_8 := hc80; try simp only [Bool.or_eq_true, Bool.and_eq_true, Bool.or_eq_false_iff, Bool.and_eq_false_iff, Bool.not_eq_true', Bool.not_eq_false', decide_eq_true_eq, decide_eq_false_iff_not, Bool.not_true, Bool.not_false] at hc80
            refine wpIn_skip ?_
            try simp only [Exit.then, Exit.inBlock]
            refine end_next hH 100 rfl hr fun w hH => ?_
            have hh := hH.sub [(100, .blk l2 (.loop r)), (5, .blk b5 (.cells #[.int .i64 most] 3 (0, 0))), (91, .blk b11 (.cells #[.slice A76 (pre9 ++ [(ek, ev)]).length c76] 25 (0, 0))), (55, .row TentE 30 (.slice A76 (pre9 ++ [(ek, ev)]).length c76) (pre9 ++ [(ek, ev)]) (fun _ => False))] (sub_cons (sub_cons (sub_cons (sub_cons (sub_nil _) 55 rfl) 91 rfl) 5 rfl) 100 rfl)
            exact ⟨true, _, rfl, ⟨_, _, rfl, by simp only [List.length_append, List.length_cons, List.length_nil] at *; omega⟩, grew_of hh (rdin_cons (fun k h => h.elim) (rdin_cons (fun k h => h.elim) (rdin_cons (fun k h => h.elim) (rdin_cons (fun k h => h.elim) rdin_nil))))⟩
        ·
          rintro e w' ⟨v_, Y, xs, rfl, rfl, hor, hG⟩
          rcases hor with ⟨Av, cv, rfl, hlt⟩ | ⟨pre9, hpre, Av, cv, rfl, hlt⟩
          ·
            have hH := Hp.back hH9 (sub_cons (sub_cons (sub_cons (sub_cons (sub_nil _) 55 rfl) 91 rfl) 5 rfl) 100 rfl) (sub_cons (sub_cons (sub_cons (sub_nil _) 3 rfl) 2 rfl) 1 rfl) hG (fun k h => h.elim) [(1, .emp), (2, .emp), (3, .emp)] (cover_cons rfl (cover_cons rfl (cover_cons rfl (cover_nil _)))) (emps_cons (emps_cons (emps_cons emps_nil))) (cover_cons rfl (cover_cons rfl (cover_cons rfl (cover_cons rfl (cover_nil _))))) (apart_cons rfl (apart_cons rfl (apart_cons rfl (apart_nil _))))
            have hH : Hp _ w0 w' [(101, .blk bk9 (.deferred (some []))), (100, .blk l2 (.loop r)), (55, .row TentE 30 (.slice Av (underL l p.path).length cv) (underL l p.path) (fun _ => False)), (91, .blk b11 (.cells #[.slice Av (underL l p.path).length cv] 25 (0, 0)))] := hH.sub _ (sub_cons (sub_cons (sub_cons (sub_cons (sub_nil _) 91 rfl) 55 rfl) 100 rfl) 101 rfl)
            refine range_next hH 100 rfl (by rw [hr.state]; decide) hr.pending fun w hH => ?_
            clear hF; have hF := hFD; revert hF; generalize ({ tmps := a.tmps, defers := [{ target := .collected bk9, args := #[] }] } : Act) = a; intro hF
            try simp only [Exit.then, Exit.inBlock]
            refine hK16 _ _ ?_
            refine wp_seq_k fun khK20 hK20 => ?_
            refine wp_region_lit ?_
            refine l_at hF rfl rfl rfl (x_load1 ty25 (hF.tmp 11 rfl) (blk_cell (hH.at 91 rfl) 0 rfl)) ?_; clear hF; intro a hF
            refine l_at hF rfl rfl rfl (x_assign (hF.tmp 81 rfl)) ?_; clear hF; intro a hF
            refine wpList_nil ?_
            refine hK20 _ _ ?_
            refine wp_ret ?_
            try simp only [Exit.then, Exit.inBlock]
            have hres : (underL l p.path) = walkL l pre most := by rw [← hund]; exact walk_all (by omega) (by rw [hund]; omega)
            exact fin_retD hF hH 101 rfl fun w hH => ⟨res1 hF rfl rfl, _, rfl, hH.mods, by rw [← hres]; exact Hp.out hH 55 rfl⟩
          ·
            have hH := Hp.back hH9 (sub_cons (sub_cons (sub_cons (sub_cons (sub_nil _) 55 rfl) 91 rfl) 5 rfl) 100 rfl) (sub_cons (sub_cons (sub_cons (sub_nil _) 3 rfl) 2 rfl) 1 rfl) hG (fun k h => h.elim) [(1, .emp), (2, .emp), (3, .emp)] (cover_cons rfl (cover_cons rfl (cover_cons rfl (cover_nil _)))) (emps_cons (emps_cons (emps_cons emps_nil))) (cover_cons rfl (cover_cons rfl (cover_cons rfl (cover_cons rfl (cover_nil _))))) (apart_cons rfl (apart_cons rfl (apart_cons rfl (apart_nil _))))
            have hH : Hp _ w0 w' [(101, .blk bk9 (.deferred (some []))), (100, .blk l2 (.loop { r with state := .done, pending := some (.exit 2) })), (55, .row TentE 30 (.slice Av pre9.length cv) pre9 (fun _ => False)), (91, .blk b11 (.cells #[.slice Av pre9.length cv] 25 (0, 0)))] := hH.sub _ (sub_cons (sub_cons (sub_cons (sub_cons (sub_nil _) 91 rfl) 55 rfl) 100 rfl) 101 rfl)
            refine range_jump hH 100 rfl (by intro h; cases h) rfl fun w hH => ?_
            clear hF; have hF := hFD; revert hF; generalize ({ tmps := a.tmps, defers := [{ target := .collected bk9, args := #[] }] } : Act) = a; intro hF
            try simp only [Exit.then, Exit.inBlock]
            refine wp_exit ?_
            refine hK16 _ _ ?_
            refine wp_seq_k fun khK21 hK21 => ?_
            refine wp_region_lit ?_
            refine l_at hF rfl rfl rfl (x_load1 ty25 (hF.tmp 11 rfl) (blk_cell (hH.at 91 rfl) 0 rfl)) ?_; clear hF; intro a hF
            refine l_at hF rfl rfl rfl (x_assign (hF.tmp 81 rfl)) ?_; clear hF; intro a hF
            refine wpList_nil ?_
            refine hK21 _ _ ?_
            refine wp_ret ?_
            try simp only [Exit.then, Exit.inBlock]
            have hres : pre9 = walkL l pre most := by exact walk_take (xs := []) (by omega) (by rw [hund]; exact hpre) hlt
            exact fin_retD hF hH 101 rfl fun w hH => ⟨res1 hF rfl rfl, _, rfl, hH.mods, by rw [← hres]; exact Hp.out hH 55 rfl⟩

end Go.Proofs.Ytlcnoibjhmflnaa.Act
