/- The trie's laws. -/
import Derived.Test.YtlcnoibjhmflnaaTriW
set_option linter.unusedVariables false
set_option linter.unusedSimpArgs false
namespace Go.Proofs.Ytlcnoibjhmflnaa.Act
open Go.RowKit Go.Proofs.Ytlcnoibjhmflnaa.Sx Go.Sort Go.Proofs.Ytlcnoibjhmflnaa.Cod
theorem ty46 : TyI Try.prog 46 (.agg #[.int .i64 0, .string (strOfNums []), .string (strOfNums [])]) 3 40 true := ⟨by kernel_rfl, _, Try.underlying46, rfl⟩
structure TactD where
  kind : Int
  key : List Int
  value : List Int
deriving DecidableEq
def TactD.tup (x : TactD) : Int × (List Int) × (List Int) := (x.kind, x.key, x.value)
def TactE : Rep TactD := Rep.iso (Rep.pair (Rep.int .i64) (Rep.pair Rep.sn Rep.sn)) TactD.tup
def gtact (xs : List TactD) (i : Int) : TactD := xs.getD i.toNat ⟨0, [], []⟩
theorem gtact_some {xs : List TactD} {i : Int} (h0 : 0 ≤ i) (h1 : i < xs.length) : xs[i.toNat]? = some (gtact xs i) := by
  have hi : i.toNat < xs.length := by omega
  simp [gtact, List.getD_eq_getElem?_getD, List.getElem?_eq_getElem hi]
theorem gtact_mem {xs : List TactD} {j : Nat} (h : j < xs.length) : gtact xs (j : Int) ∈ xs := List.mem_of_getElem? (gtact_some (xs := xs) (i := (j : Int)) (by omega) (by omega))
theorem gtact_at {xs : List TactD} {j : Nat} (h : j < xs.length) : xs[j]? = some (gtact xs (j : Int)) := gtact_some (xs := xs) (i := (j : Int)) (by omega) (by omega)
theorem tact_cells {w : World} {ok : Nat → Prop} {x : TactD} {cs : List Value} (h : TactE.R w ok x cs) : cs = [.int .i64 x.kind, .string (strOfNums x.key), .string (strOfNums x.value)] := by
  obtain ⟨cc0, dd0, rfl, hc0, cc1, dd1, rfl, hc1, hc2⟩ := h
  have he0 : cc0 = [.int .i64 x.kind] := hc0
  subst he0
  have he1 : cc1 = [.string (strOfNums x.key)] := hc1
  subst he1
  have he2 : dd1 = [.string (strOfNums x.value)] := hc2
  subst he2
  exact rfl
theorem tact_mk {w : World} {ok : Nat → Prop} (x : TactD) : TactE.R w ok x [.int .i64 x.kind, .string (strOfNums x.key), .string (strOfNums x.value)] :=
  ⟨[.int .i64 x.kind], _, rfl, rfl, [.string (strOfNums x.key)], _, rfl, rfl, rfl⟩
theorem tact_any {T : TypeId} {w : World} {ok ok' : Nat → Prop} {v : Value} {xs : List TactD} (h : Row TactE T w ok v xs) : Row TactE T w ok' v xs := by
  obtain ⟨cs, h1, h2, h3⟩ := h
  refine ⟨cs, h1, h2, fun i x hx => ?_⟩
  have := tact_cells (h3 i x hx)
  rw [this]
  exact tact_mk x
theorem rd_tact {w : World} {ok : Nat → Prop} {A : Option Addr} {xs : List TactD} {c : Nat} (hr : Rd TactE w ok A xs c) {i : Nat} {f : TactD} (hx : xs[i]? = some f) : w.cell? (adr A (i * 3)) = some (.int .i64 f.kind) ∧ w.cell? (adr A (i * 3 + 1)) = some (.string (strOfNums f.key)) ∧ w.cell? (adr A (i * 3 + 2)) = some (.string (strOfNums f.value)) ∧
    (∀ j u, (#[.int .i64 f.kind, .string (strOfNums f.key), .string (strOfNums f.value)] : Array Value).toList[j]? = some u → w.cell? ((adr A (i * 3)).add j) = some u) := by
  obtain ⟨cs, hR, hc⟩ := hr.cellsA (n := 3) rfl hx
  have := tact_cells hR
  subst this
  obtain ⟨b, off, rfl⟩ := hr.some_ (by have := (List.getElem?_eq_some_iff.1 hx).1; omega)
  have e : ∀ q, adr (some (⟨b, off, Option.none⟩ : Addr)) q = ⟨b, off + q, Option.none⟩ := fun q => by simp only [adr, Option.getD_some]; exact add_off _ _ _
  have g : ∀ j u, [(.int .i64 f.kind : Value), .string (strOfNums f.key), .string (strOfNums f.value)][j]? = some u → w.cell? (adr (some (⟨b, off, Option.none⟩ : Addr)) (i * 3 + j)) = some u := fun j u hj => by
    have := hc j u hj
    rw [e, add_off] at this
    rw [e, ← Nat.add_assoc]; exact this
  exact ⟨g 0 _ rfl, g 1 _ rfl, g 2 _ rfl, fun j u hj => hc j u hj⟩
structure TofD where
  pre : List Int
  most : Int
  key : List Int
deriving DecidableEq
def TofD.tup (x : TofD) : (List Int) × Int × (List Int) := (x.pre, x.most, x.key)
def TofE : Rep TofD := Rep.iso (Rep.pair Rep.sn (Rep.pair (Rep.int .i64) Rep.sn)) TofD.tup
def gtof (xs : List TofD) (i : Int) : TofD := xs.getD i.toNat ⟨[], 0, []⟩
theorem gtof_some {xs : List TofD} {i : Int} (h0 : 0 ≤ i) (h1 : i < xs.length) : xs[i.toNat]? = some (gtof xs i) := by
  have hi : i.toNat < xs.length := by omega
  simp [gtof, List.getD_eq_getElem?_getD, List.getElem?_eq_getElem hi]
theorem gtof_mem {xs : List TofD} {j : Nat} (h : j < xs.length) : gtof xs (j : Int) ∈ xs := List.mem_of_getElem? (gtof_some (xs := xs) (i := (j : Int)) (by omega) (by omega))
theorem gtof_at {xs : List TofD} {j : Nat} (h : j < xs.length) : xs[j]? = some (gtof xs (j : Int)) := gtof_some (xs := xs) (i := (j : Int)) (by omega) (by omega)
theorem tof_cells {w : World} {ok : Nat → Prop} {x : TofD} {cs : List Value} (h : TofE.R w ok x cs) : cs = [.string (strOfNums x.pre), .int .i64 x.most, .string (strOfNums x.key)] := by
  obtain ⟨cc0, dd0, rfl, hc0, cc1, dd1, rfl, hc1, hc2⟩ := h
  have he0 : cc0 = [.string (strOfNums x.pre)] := hc0
  subst he0
  have he1 : cc1 = [.int .i64 x.most] := hc1
  subst he1
  have he2 : dd1 = [.string (strOfNums x.key)] := hc2
  subst he2
  exact rfl
theorem tof_mk {w : World} {ok : Nat → Prop} (x : TofD) : TofE.R w ok x [.string (strOfNums x.pre), .int .i64 x.most, .string (strOfNums x.key)] :=
  ⟨[.string (strOfNums x.pre)], _, rfl, rfl, [.int .i64 x.most], _, rfl, rfl, rfl⟩
theorem tof_any {T : TypeId} {w : World} {ok ok' : Nat → Prop} {v : Value} {xs : List TofD} (h : Row TofE T w ok v xs) : Row TofE T w ok' v xs := by
  obtain ⟨cs, h1, h2, h3⟩ := h
  refine ⟨cs, h1, h2, fun i x hx => ?_⟩
  have := tof_cells (h3 i x hx)
  rw [this]
  exact tof_mk x
theorem rd_tof {w : World} {ok : Nat → Prop} {A : Option Addr} {xs : List TofD} {c : Nat} (hr : Rd TofE w ok A xs c) {i : Nat} {f : TofD} (hx : xs[i]? = some f) : w.cell? (adr A (i * 3)) = some (.string (strOfNums f.pre)) ∧ w.cell? (adr A (i * 3 + 1)) = some (.int .i64 f.most) ∧ w.cell? (adr A (i * 3 + 2)) = some (.string (strOfNums f.key)) ∧
    (∀ j u, (#[.string (strOfNums f.pre), .int .i64 f.most, .string (strOfNums f.key)] : Array Value).toList[j]? = some u → w.cell? ((adr A (i * 3)).add j) = some u) := by
  obtain ⟨cs, hR, hc⟩ := hr.cellsA (n := 3) rfl hx
  have := tof_cells hR
  subst this
  obtain ⟨b, off, rfl⟩ := hr.some_ (by have := (List.getElem?_eq_some_iff.1 hx).1; omega)
  have e : ∀ q, adr (some (⟨b, off, Option.none⟩ : Addr)) q = ⟨b, off + q, Option.none⟩ := fun q => by simp only [adr, Option.getD_some]; exact add_off _ _ _
  have g : ∀ j u, [(.string (strOfNums f.pre) : Value), .int .i64 f.most, .string (strOfNums f.key)][j]? = some u → w.cell? (adr (some (⟨b, off, Option.none⟩ : Addr)) (i * 3 + j)) = some u := fun j u hj => by
    have := hc j u hj
    rw [e, add_off] at this
    rw [e, ← Nat.add_assoc]; exact this
  exact ⟨g 0 _ rfl, g 1 _ rfl, g 2 _ rfl, fun j u hj => hc j u hj⟩
def aL1 : List Ent := putL [] [97, 98, 99] [49]
def aL2 : List Ent := putL aL1 [97, 98, 100] [50]
def aL3 : List Ent := putL aL2 [97, 98, 99] [51]
theorem aL3_eq : aL3 = [([97, 98, 99], [51]), ([97, 98, 100], [50])] := by decide
theorem aL_lng : LngOf aL3 [97, 98, 99, 100] 5 (some ([97, 98, 99], [51])) := by
  rw [aL3_eq]
  refine ⟨fun e he => by cases he; exact ⟨by decide, by decide⟩, fun e h1 h2 h3 => ⟨_, rfl, ?_⟩⟩
  simp only [List.mem_cons, List.not_mem_nil, or_false] at h1
  rcases h1 with rfl | rfl <;> decide
theorem aL_walk : walkL aL3 [97, 98] 9 = [([97, 98, 99], [51]), ([97, 98, 100], [50])] := by decide
theorem aL_nodes : nodesL aL3 = 4 := by decide
theorem aL_len : aL3.length = 2 := by decide
theorem aL_old : al aL2 [97, 98, 99] = some [49] := by decide
theorem aL_sorted : Sorted aL3 := by rw [aL3_eq]; unfold Sorted; decide
set_option maxRecDepth 100000 in
set_option maxHeartbeats 1000000 in
theorem talive_calls (w0 : World) : Calls Try.prog 12 #[] w0 fun e w' => e = .returned (.bool true) ∧ Mods (fun _ => False) w0 w' := by
  refine calls_of_wp Try.func12 rfl ?_
  have hF := Fr.enter #[] 61 (slotsOf [] 0) (Nat.le_of_ble_eq_true rfl) (fun i v h => by have h2 := (get_slotsOf _ 0 i v h).2; simpa only [List.getElem?_toArray, Nat.sub_zero] using h2)
  have hH := Hp.nil (fun _ => False) w0
  rw [Try.ntmps12]
  revert hF; generalize (⟨(#[] : Array Value) ++ Array.replicate (61 - (#[] : Array Value).size) undef, []⟩ : Act) = a; intro hF
  refine wp_seq_k fun khK1 hK1 => ?_
  refine wp_region_lit ?_
  refine l_at hF rfl rfl rfl (x_assign rfl) ?_; clear hF; intro a hF
  refine wpList_nil ?_
  refine hK1 _ _ ?_
  refine wp_seq_k fun khK2 hK2 => ?_
  refine wp_region_lit ?_
  refine wpList_plain rfl fun K hK => ?_
  refine w_call hF (x_enter Try.func14 (by kernel_rfl) rfl (by simp only [List.map_toArray, List.map_cons, List.map_nil] <;> rfl)) (new_calls _) rfl rfl ?_
  rintro _ w ⟨tb, X0, rfl, hX0, hm_, hxo_, hxn_, hxr_⟩; refine ⟨_, rfl, ?_⟩; clear hF; intro a hF; have hH := hH.newX 100 hm_ hxo_ hxn_ (fun k hk => (hxr_ k hk).elim)
  refine hK _ _ ?_; clear hK K
  refine l_at hF rfl rfl rfl (x_assign (hF.tmp 7 rfl)) ?_; clear hF; intro a hF
  refine wpList_nil ?_
  refine hK2 _ _ ?_
  refine wp_seq_k fun khK3 hK3 => ?_
  refine wp_seq_k fun khK4 hK4 => ?_
  refine wp_region_lit ?_
  refine l_at hF rfl rfl rfl (x_move (hF.tmp 1 rfl)) ?_; clear hF; intro a hF
  refine l_at hF rfl rfl rfl (x_ptrnil Try.underlying23 (hF.tmp 8 rfl) rfl) ?_; clear hF; intro a hF
  refine wpList_nil ?_
  refine hK4 _ _ ?_
  refine wp_cond_false (hF.tmp 9 rfl) ?_
  refine wp_skip ?_
  refine hK3 _ _ ?_
  refine wp_seq_k fun khK5 hK5 => ?_
  refine wp_region_lit ?_
  refine l_at hF rfl rfl rfl (x_move (hF.tmp 1 rfl)) ?_; clear hF; intro a hF
  refine wpList_plain rfl fun K hK => ?_
  refine w_call hF (x_enter Try.func15 (by kernel_rfl) rfl (by simp only [List.map_toArray, List.map_cons, List.map_nil, hF.tmp 10 rfl] <;> kernel_rfl)) (put_calls (key := ([97, 98, 99] : List Int)) (v := ([49] : List Int)) _ hX0 (hH.okX 100 rfl) (by unfold Byte; decide) (by decide) (by unfold Byte; decide) (by decide) (by decide)) rfl rfl ?_
  rintro _ w ⟨Y1, rfl, hY1, hg_⟩; refine ⟨_, rfl, ?_⟩; clear hF; intro a hF; have hH := hH.grew 100 rfl hg_ (fun k hk => hk.elim)
  refine hK _ _ ?_; clear hK K
  have haL1 : TrieA 58 62 9 tb aL1 Y1 := hY1
  refine wpList_nil ?_
  refine hK5 _ _ ?_
  refine wp_seq_k fun khK6 hK6 => ?_
  refine wp_region_lit ?_
  refine l_at hF rfl rfl rfl (x_move (hF.tmp 1 rfl)) ?_; clear hF; intro a hF
  refine wpList_plain rfl fun K hK => ?_
  refine w_call hF (x_enter Try.func15 (by kernel_rfl) rfl (by simp only [List.map_toArray, List.map_cons, List.map_nil, hF.tmp 12 rfl] <;> kernel_rfl)) (put_calls (key := ([97, 98, 100] : List Int)) (v := ([50] : List Int)) _ haL1 (hH.okX 100 rfl) (by unfold Byte; decide) (by decide) (by unfold Byte; decide) (by decide) (by decide)) rfl rfl ?_
  rintro _ w ⟨Y2, rfl, hY2, hg_⟩; refine ⟨_, rfl, ?_⟩; clear hF; intro a hF; have hH := hH.grew 100 rfl hg_ (fun k hk => hk.elim)
  refine hK _ _ ?_; clear hK K
  have haL2 : TrieA 58 62 9 tb aL2 Y2 := hY2
  refine wpList_nil ?_
  refine hK6 _ _ ?_
  refine wp_seq_k fun khK7 hK7 => ?_
  refine wp_region_lit ?_
  refine l_at hF rfl rfl rfl (x_move (hF.tmp 1 rfl)) ?_; clear hF; intro a hF
  refine wpList_plain rfl fun K hK => ?_
  refine w_call hF (x_enter Try.func15 (by kernel_rfl) rfl (by simp only [List.map_toArray, List.map_cons, List.map_nil, hF.tmp 15 rfl] <;> kernel_rfl)) (put_calls (key := ([97, 98, 99] : List Int)) (v := ([51] : List Int)) _ haL2 (hH.okX 100 rfl) (by unfold Byte; decide) (by decide) (by unfold Byte; decide) (by decide) (by decide)) rfl rfl ?_
  rintro _ w ⟨Y3, rfl, hY3, hg_⟩; refine ⟨_, rfl, ?_⟩; clear hF; intro a hF; have hH := hH.grew 100 rfl hg_ (fun k hk => hk.elim)
  refine hK _ _ ?_; clear hK K
  rw [aL_old] at hF
  have haL3 : TrieA 58 62 9 tb aL3 Y3 := hY3
  refine l_at hF rfl rfl rfl (x_move (hF.tmp 16 rfl)) ?_; clear hF; intro a hF
  refine l_at hF rfl rfl rfl (x_extract (hF.tmp 14 rfl) rfl) ?_; clear hF; intro a hF
  refine l_at hF rfl rfl rfl (x_extract (hF.tmp 14 rfl) rfl) ?_; clear hF; intro a hF
  refine l_at hF rfl rfl rfl (x_assign (hF.tmp 17 rfl)) ?_; clear hF; intro a hF
  refine l_at hF rfl rfl rfl (x_assign (hF.tmp 18 rfl)) ?_; clear hF; intro a hF
  refine wpList_nil ?_
  refine hK7 _ _ ?_
  refine wp_seq_k fun khK8 hK8 => ?_
  refine wp_region_lit ?_
  refine l_at hF rfl rfl rfl (x_move (hF.tmp 1 rfl)) ?_; clear hF; intro a hF
  refine wpList_plain rfl fun K hK => ?_
  refine w_call hF (x_enter Try.func20 (by kernel_rfl) rfl (by simp only [List.map_toArray, List.map_cons, List.map_nil, hF.tmp 20 rfl] <;> kernel_rfl)) (longest_calls (key := ([97, 98, 99, 100] : List Int)) _ haL3 (hH.okX 100 rfl) (by unfold Byte; decide) (by decide)) rfl rfl ?_
  rintro _ w ⟨best, hlng, rfl, hm_⟩; refine ⟨_, rfl, ?_⟩; clear hF; intro a hF; have hH := hH.same hm_
  refine hK _ _ ?_; clear hK K
  obtain rfl : best = some ([97, 98, 99], [51]) := LngOf.uniq aL_sorted (by decide) hlng aL_lng
  refine l_at hF rfl rfl rfl (x_move (hF.tmp 21 rfl)) ?_; clear hF; intro a hF
  refine l_at hF rfl rfl rfl (x_extract (hF.tmp 19 rfl) rfl) ?_; clear hF; intro a hF
  refine l_at hF rfl rfl rfl (x_extract (hF.tmp 19 rfl) rfl) ?_; clear hF; intro a hF
  refine wpList_plain rfl fun K hK => ?_
  refine w_alloc 44 hF hH rfl ty30 ?_
  clear hF hH; intro a w b4 hF hH
  refine hK _ _ ?_; clear hK K
  refine wpList_plain rfl fun K hK => ?_
  refine w_storeA 44 hH ty30 rfl (hF.tmp 4 rfl) (hF.tmp 22 rfl) rfl (by simp [Value.cells, Value.oneCell']) rfl ?_
  clear hH; intro w hH
  refine hK _ _ ?_; clear hK K
  refine l_at hF rfl rfl rfl (x_assign (hF.tmp 23 rfl)) ?_; clear hF; intro a hF
  refine wpList_nil ?_
  refine hK8 _ _ ?_
  refine wp_seq_k fun khK9 hK9 => ?_
  refine wp_region_lit ?_
  refine l_at hF rfl rfl rfl (x_move (hF.tmp 1 rfl)) ?_; clear hF; intro a hF
  refine wpList_plain rfl fun K hK => ?_
  refine w_call hF (x_enter Try.func10 (by kernel_rfl) rfl (by simp only [List.map_toArray, List.map_cons, List.map_nil, hF.tmp 24 rfl] <;> kernel_rfl)) (walk_calls (pre := ([97, 98] : List Int)) _ haL3 (hH.okX 100 rfl) (by unfold Byte; decide) (by decide) (most := 9) (by omega) (by omega) (by decide) (by decide)) rfl rfl ?_
  rintro _ w ⟨vr60, rfl, hm_, hr_⟩; refine ⟨_, rfl, ?_⟩; clear hF; intro a hF; have hH := Hp.rowOut hH 60 hm_ hr_; obtain ⟨Ar60, cr60, rfl⟩ := (hH.row 60 rfl).form
  refine hK _ _ ?_; clear hK K
  rw [aL_walk] at hF hH
  have hw2 : ([([97, 98, 99], [51]), ([97, 98, 100], [50])] : List Ent).length = 2 := rfl
  refine l_at hF rfl rfl rfl (x_assign (hF.tmp 25 rfl)) ?_; clear hF; intro a hF
  refine wpList_nil ?_
  refine hK9 _ _ ?_
  refine wp_seq_k fun khK10 hK10 => ?_
  refine wp_region_lit ?_
  refine l_at hF rfl rfl rfl (x_move (hF.tmp 3 rfl)) ?_; clear hF; intro a hF
  refine l_at hF rfl rfl rfl (x_move (hF.tmp 26 rfl)) ?_; clear hF; intro a hF
  refine l_atg hF ((wanted_of hF rfl rfl rfl rfl).trans rfl) rfl rfl (x_move (hF.tmp 2 rfl)) ?_; clear hF; intro a hF
  refine l_atg hF ((wanted_of hF rfl rfl rfl rfl).trans rfl) rfl rfl (x_eqn (xs := ([49] : List Int)) (ys := ([49] : List Int)) (hF.tmp 28 rfl) (show _ = Value.string (strOfNums ([49] : List Int)) by kernel_rfl) (by unfold Byte; decide) (by unfold Byte; decide)) ?_; clear hF; intro a hF
  refine l_at hF rfl rfl rfl (x_pickT (hF.tmp 27 rfl) rfl (hF.tmp 29 rfl)) ?_; clear hF; intro a hF
  refine l_at hF rfl rfl rfl (x_move (hF.tmp 30 rfl)) ?_; clear hF; intro a hF
  refine l_atg hF ((wanted_of hF rfl rfl rfl rfl).trans rfl) rfl rfl (x_move (hF.tmp 5 rfl)) ?_; clear hF; intro a hF
  refine l_at hF rfl rfl rfl (x_pickT (hF.tmp 31 rfl) rfl (hF.tmp 32 rfl)) ?_; clear hF; intro a hF
  refine l_at hF rfl rfl rfl (x_move (hF.tmp 33 rfl)) ?_; clear hF; intro a hF
  refine l_atg hF ((wanted_of hF rfl rfl rfl rfl).trans rfl) rfl rfl (x_faddr Try.underlying30 rfl ty9 (by decide) (hF.tmp 4 rfl) rfl) ?_; clear hF; intro a hF
  refine l_atg hF ((wanted_of hF rfl rfl rfl rfl).trans rfl) rfl rfl (x_load1 ty9 (hF.tmp 35 rfl) (blk_cell (hH.at 44 rfl) 1 rfl)) ?_; clear hF; intro a hF
  refine l_atg hF ((wanted_of hF rfl rfl rfl rfl).trans rfl) rfl rfl (x_eqn (xs := ([51] : List Int)) (ys := ([51] : List Int)) (hF.tmp 36 rfl) (show _ = Value.string (strOfNums ([51] : List Int)) by kernel_rfl) (by unfold Byte; decide) (by unfold Byte; decide)) ?_; clear hF; intro a hF
  refine l_at hF rfl rfl rfl (x_pickT (hF.tmp 34 rfl) rfl (hF.tmp 37 rfl)) ?_; clear hF; intro a hF
  refine l_at hF rfl rfl rfl (x_move (hF.tmp 38 rfl)) ?_; clear hF; intro a hF
  refine l_atg hF ((wanted_of hF rfl rfl rfl rfl).trans rfl) rfl rfl (x_move (hF.tmp 6 rfl)) ?_; clear hF; intro a hF
  refine l_atg hF ((wanted_of hF rfl rfl rfl rfl).trans rfl) rfl rfl (x_len_slice Try.underlying25 (hF.tmp 40 rfl)) ?_; clear hF; intro a hF
  refine l_atg hF ((wanted_of hF rfl rfl rfl rfl).trans rfl) rfl rfl (x_eql (hF.tmp 41 rfl) rfl) ?_; clear hF; intro a hF
  refine l_at hF rfl rfl rfl (x_pickT (hF.tmp 39 rfl) rfl (hF.tmp 42 rfl)) ?_; clear hF; intro a hF
  refine l_at hF rfl rfl rfl (x_move (hF.tmp 43 rfl)) ?_; clear hF; intro a hF
  refine l_atg hF ((wanted_of hF rfl rfl rfl rfl).trans rfl) rfl rfl (x_move (hF.tmp 6 rfl)) ?_; clear hF; intro a hF
  obtain ⟨hf1_0, hf1_1, hfw1⟩ := rd_tent (Row.rd (ok' := fun k_ => (fun _ => False) k_ ∨ (.slice Ar60 ([([97, 98, 99], [51]), ([97, 98, 100], [50])] : List Ent).length cr60 : Value).ownBlock = some k_) (hH.row 60 rfl) (fun _ hk_ _ => .inl hk_) (fun _ hk_ => .inr hk_)) (gtent_some (xs := ([([97, 98, 99], [51]), ([97, 98, 100], [50])] : List Ent)) (i := 1) (by omega) (by omega))
  refine l_atg hF ((wanted_of hF rfl rfl rfl rfl).trans rfl) rfl rfl (x_iaddr_A Try.underlying25 ty30 (Row.rd (ok' := fun k_ => (fun _ => False) k_ ∨ (.slice Ar60 ([([97, 98, 99], [51]), ([97, 98, 100], [50])] : List Ent).length cr60 : Value).ownBlock = some k_) (hH.row 60 rfl) (fun _ hk_ _ => .inl hk_) (fun _ hk_ => .inr hk_)) (hF.tmp 45 rfl) rfl (by omega) (by omega) _) ?_; clear hF; intro a hF
  refine l_atg hF ((wanted_of hF rfl rfl rfl rfl).trans rfl) rfl rfl (x_faddrA (Row.rd (ok' := fun k_ => (fun _ => False) k_ ∨ (.slice Ar60 ([([97, 98, 99], [51]), ([97, 98, 100], [50])] : List Ent).length cr60 : Value).ownBlock = some k_) (hH.row 60 rfl) (fun _ hk_ _ => .inl hk_) (fun _ hk_ => .inr hk_)) (by omega) _ Try.underlying30 rfl ty9 (by decide) (hF.tmp 46 rfl) rfl) ?_; clear hF; intro a hF
  refine l_atg hF ((wanted_of hF rfl rfl rfl rfl).trans rfl) rfl rfl (x_load1 ty9 (hF.tmp 47 rfl) hf1_0) ?_; clear hF; intro a hF
  refine l_atg hF ((wanted_of hF rfl rfl rfl rfl).trans rfl) rfl rfl (x_eqn (xs := ((gtent ([([97, 98, 99], [51]), ([97, 98, 100], [50])] : List Ent) 1).1)) (ys := ([97, 98, 100] : List Int)) (hF.tmp 48 rfl) (show _ = Value.string (strOfNums ([97, 98, 100] : List Int)) by kernel_rfl) (by unfold Byte; decide) (by unfold Byte; decide)) ?_; clear hF; intro a hF
  refine l_at hF rfl rfl rfl (x_pickT (hF.tmp 44 rfl) rfl (hF.tmp 49 rfl)) ?_; clear hF; intro a hF
  refine l_at hF rfl rfl rfl (x_move (hF.tmp 50 rfl)) ?_; clear hF; intro a hF
  refine l_atg hF ((wanted_of hF rfl rfl rfl rfl).trans rfl) rfl rfl (x_move (hF.tmp 1 rfl)) ?_; clear hF; intro a hF
  refine wpList_on ((wanted_of hF rfl rfl rfl rfl).trans rfl) fun K hK => ?_
  refine w_call hF (x_enter Try.func19 (by kernel_rfl) rfl (by simp only [List.map_toArray, List.map_cons, List.map_nil, hF.tmp 52 rfl] <;> rfl)) (nodes_calls _ haL3 (hH.okX 100 rfl)) rfl rfl ?_
  rintro _ w ⟨rfl, hm_⟩; refine ⟨_, rfl, ?_⟩; clear hF; intro a hF; have hH := hH.same hm_
  refine hK _ _ ?_; clear hK K
  rw [aL_nodes] at hF
  refine l_atg hF ((wanted_of hF rfl rfl rfl rfl).trans rfl) rfl rfl (x_eql (hF.tmp 53 rfl) rfl) ?_; clear hF; intro a hF
  refine l_at hF rfl rfl rfl (x_pickT (hF.tmp 51 rfl) rfl (hF.tmp 54 rfl)) ?_; clear hF; intro a hF
  refine l_at hF rfl rfl rfl (x_move (hF.tmp 55 rfl)) ?_; clear hF; intro a hF
  refine l_atg hF ((wanted_of hF rfl rfl rfl rfl).trans rfl) rfl rfl (x_move (hF.tmp 1 rfl)) ?_; clear hF; intro a hF
  refine wpList_on ((wanted_of hF rfl rfl rfl rfl).trans rfl) fun K hK => ?_
  refine w_call hF (x_enter Try.func13 (by kernel_rfl) rfl (by simp only [List.map_toArray, List.map_cons, List.map_nil, hF.tmp 57 rfl] <;> rfl)) (len_calls _ haL3 (hH.okX 100 rfl)) rfl rfl ?_
  rintro _ w ⟨rfl, hm_⟩; refine ⟨_, rfl, ?_⟩; clear hF; intro a hF; have hH := hH.same hm_
  refine hK _ _ ?_; clear hK K
  rw [aL_len] at hF
  refine l_atg hF ((wanted_of hF rfl rfl rfl rfl).trans rfl) rfl rfl (x_eql (hF.tmp 58 rfl) rfl) ?_; clear hF; intro a hF
  refine l_at hF rfl rfl rfl (x_pickT (hF.tmp 56 rfl) rfl (hF.tmp 59 rfl)) ?_; clear hF; intro a hF
  refine l_at hF rfl rfl rfl (x_assign (hF.tmp 60 rfl)) ?_; clear hF; intro a hF
  refine wpList_nil ?_
  refine hK10 _ _ ?_
  refine wp_ret ?_
  try simp only [Exit.then, Exit.inBlock]
  exact fin_ret hF (res1 (v := .bool true) hF rfl rfl) ⟨rfl, hH.mods⟩

structure TactB (s : TactD) : Prop where
  key : Byte s.key
  value : Byte s.value
theorem gtact_B {xs : List TactD} (h : ∀ x ∈ xs, TactB x) {i : Nat} (hi : i < xs.length) : TactB (gtact xs (i : Int)) := h _ (gtact_mem hi)
theorem put_le {l : List Ent} (hs : Sorted l) {k v : Str} {n : Nat} (h : l.length ≤ n) : (putL l k v).length ≤ n + 1 := by have := length_putL l k v hs; omega
theorem drop_le {l : List Ent} {k : Str} {n : Nat} (h : l.length ≤ n) : (dropL l k).length ≤ n := Nat.le_trans (List.length_filter_le _ _) h
theorem TrieA.byte {TT TN TS : TypeId} {tb : Nat} {l : List Ent} {X : Asn} (h : TrieA TT TN TS tb l X) {e : Ent} (he : e ∈ l) : (Byte e.1 ∧ e.1.length ≤ 1000000) ∧ Byte e.2 ∧ e.2.length ≤ 1000000 := by
  obtain ⟨S, root, _, hw, _, hE⟩ := h
  obtain ⟨k, v⟩ := e
  obtain ⟨r, h1, rfl, b, h2⟩ := (hE.2 k v).1 he
  exact ⟨⟨(hw.byte r h1).1, (hw.byte r h1).2.1⟩, hw.vbyte r h1 b v h2⟩
theorem TrieA.sorted {TT TN TS : TypeId} {tb : Nat} {l : List Ent} {X : Asn} (h : TrieA TT TN TS tb l X) : Sorted l := by obtain ⟨S, root, _, _, _, he⟩ := h; exact he.1
set_option maxRecDepth 100000 in
set_option maxHeartbeats 1000000 in
theorem built_calls (w0 : World) {script : List TactD} {ok : Nat → Prop} {A : Option Addr} {c : Nat} (hr : Rd TactE w0 ok A script c) (hB : ∀ x ∈ script, TactB x) : Calls Try.prog 9 #[.slice A script.length c] w0 fun e w' => ∃ tb X l, e = .returned (.pointer (some ⟨tb, 0, none⟩)) ∧ TrieA 58 62 9 tb l X ∧ l.length ≤ 120 ∧ Mods (fun _ => False) w0 w' ∧ X.ok w' ∧ (∀ k, X.own k → w0.heap.size ≤ k) ∧ ∀ k, X.rd k → w0.heap.size ≤ k := by
  refine calls_of_wp Try.func9 rfl ?_
  have hF := Fr.enter #[.slice A script.length c] 56 (slotsOf [.slice A script.length c] 0) (Nat.le_of_ble_eq_true rfl) (fun i v h => by have h2 := (get_slotsOf _ 0 i v h).2; simpa only [List.getElem?_toArray, Nat.sub_zero] using h2)
  have hH := Hp.nil (fun _ => False) w0
  rw [Try.ntmps9]
  revert hF; generalize (⟨(#[.slice A script.length c] : Array Value) ++ Array.replicate (56 - (#[.slice A script.length c] : Array Value).size) undef, []⟩ : Act) = a; intro hF
  have hH := hH.arg 901 hr.all (fun _ h => ⟨h, fun h => h⟩)
  have hle901 := hr.le; unfold maxLen at hle901
  refine wp_seq_k fun khK1 hK1 => ?_
  refine wp_region_lit ?_
  refine l_at hF rfl rfl rfl (x_assign rfl) ?_; clear hF; intro a hF
  refine wpList_nil ?_
  refine hK1 _ _ ?_
  refine wp_seq_k fun khK2 hK2 => ?_
  refine wp_region_lit ?_
  refine wpList_plain rfl fun K hK => ?_
  refine w_call hF (x_enter Try.func14 (by kernel_rfl) rfl (by simp only [List.map_toArray, List.map_cons, List.map_nil] <;> rfl)) (new_calls _) rfl rfl ?_
  rintro _ w ⟨tb, X0, rfl, hX0, hm_, hxo_, hxn_, hxr_⟩; refine ⟨_, rfl, ?_⟩; clear hF; intro a hF; have hH := hH.newX 100 hm_ hxo_ hxn_ (fun k hk => (hxr_ k hk).elim)
  refine hK _ _ ?_; clear hK K
  refine l_at hF rfl rfl rfl (x_assign (hF.tmp 6 rfl)) ?_; clear hF; intro a hF
  refine wpList_nil ?_
  refine hK2 _ _ ?_
  refine wp_seq_k fun khK3 hK3 => ?_
  refine wp_seq_k fun khK4 hK4 => ?_
  refine wp_region_lit ?_
  refine l_at hF rfl rfl rfl (x_assign rfl) ?_; clear hF; intro a hF
  refine wpList_nil ?_
  refine hK4 _ _ ?_
  refine wp_block ?_
  refine wp_loop_ghost (fun n_ a w => ∃ i : Nat, ∃ X_ : Asn, ∃ l : List Ent, n_ = script.length - i ∧ (i ≤ script.length ∧ i ≤ 120) ∧ (TrieA 58 62 9 tb l X_) ∧ (l.length ≤ i) ∧ (∀ k, X_.rd k → w0.heap.size ≤ k) ∧ Fr 56 a [(0, .slice A script.length c), (3, .pointer (some ⟨tb, 0, none⟩)), (4, .int .i64 (i : Int))] ∧ Hp (fun _ => False) w0 w [(901, .rd_ TactE A script c (fun k => k < w0.heap.size)), (100, X_)]) (script.length) ?_ ?_
  · exact ⟨0, X0, [], rfl, ⟨by omega, by omega⟩, hX0, (Nat.le_refl _), (fun k hk => (hxr_ k hk).elim), (((hF.bare.add hF 4 rfl).add hF 3 rfl).add hF 0 rfl), hH.sub _ (sub_cons (sub_cons (sub_nil _) 100 rfl) 901 rfl)⟩
  · rintro _ a w ⟨i, X_, l, rfl, hq0_0, hq0_1, hq0_2, hq0_3, hF, hH⟩
    refine wp_seq_k fun khK5 hK5 => ?_
    refine wp_seq_k fun khK6 hK6 => ?_
    refine wp_region_lit ?_
    refine l_at hF rfl rfl rfl (x_move (hF.tmp 4 rfl)) ?_; clear hF; intro a hF
    refine l_at hF rfl rfl rfl (x_move (hF.tmp 0 rfl)) ?_; clear hF; intro a hF
    refine l_at hF rfl rfl rfl (x_len_slice Try.underlying22 (hF.tmp 8 rfl)) ?_; clear hF; intro a hF
    refine l_at hF rfl rfl rfl (x_lss (hF.tmp 7 rfl) (hF.tmp 9 rfl)) ?_; clear hF; intro a hF
    refine l_at hF rfl rfl rfl (x_move (hF.tmp 10 rfl)) ?_; clear hF; intro a hF
    refine split_bool hF 11 rfl (fun hb11 => ?_) (fun hb11 => ?_)
    · have hc11 := hb11; try simp only [Bool.or_eq_true, Bool.and_eq_true, Bool.or_eq_false_iff, Bool.and_eq_false_iff, Bool.not_eq_true', Bool.not_eq_false', decide_eq_true_eq, decide_eq_false_iff_not, Bool.not_true, Bool.not_false] at hc11
      refine l_atg hF ((wanted_of hF rfl rfl rfl rfl).trans (by rw [hb11]; rfl)) rfl rfl (x_move (hF.tmp 4 rfl)) ?_; clear hF; intro a hF
      refine l_atg hF ((wanted_of hF rfl rfl rfl rfl).trans (by rw [hb11]; rfl)) rfl rfl (x_lss (hF.tmp 12 rfl) rfl) ?_; clear hF; intro a hF
      refine l_at hF rfl rfl rfl (x_pickT (hF.tmp 11 rfl) hb11 (hF.tmp 13 rfl)) ?_; clear hF; intro a hF
      refine wpList_nil ?_
      refine hK6 _ _ ?_
      refine wp_cond_split (hF.tmp 14 rfl) (fun hc14 => ?_) (fun hc14 => ?_)
      · have hk14_1 := hc14; try simp only [Bool.or_eq_true, Bool.and_eq_true, Bool.or_eq_false_iff, Bool.and_eq_false_iff, Bool.not_eq_true', Bool.not_eq_false', decide_eq_true_eq, decide_eq_false_iff_not, Bool.not_true, Bool.not_false] at hc14
        refine wp_skip ?_
        refine hK5 _ _ ?_
        refine wp_seq_k fun khK7 hK7 => ?_
        refine wp_block ?_
        refine wp_seq_k fun khK8 hK8 => ?_
        refine wp_region_lit ?_
        refine l_at hF rfl rfl rfl (x_move (hF.tmp 0 rfl)) ?_; clear hF; intro a hF
        refine l_at hF rfl rfl rfl (x_move (hF.tmp 4 rfl)) ?_; clear hF; intro a hF
        refine l_at hF rfl rfl rfl (x_iaddr_A Try.underlying22 ty46 ((hH.rd 901 rfl)) (hF.tmp 17 rfl) (hF.tmp 18 rfl) (by omega) (by omega) _) ?_; clear hF; intro a hF
        obtain ⟨hf1_0, hf1_1, hf1_2, hfw1⟩ := rd_tact ((hH.rd 901 rfl)) (gtact_some (xs := script) (i := (i : Int)) (by omega) (by omega))
        have hH := hH.subcels 901 rfl 1499 hfw1 (Rd.inok ((hH.rd 901 rfl)) (by omega) _)
        have hH := hH.subcel 901 rfl 1500 hf1_0 (Rd.inok ((hH.rd 901 rfl)) (by omega) _)
        have hH := hH.subcel 901 rfl 1501 hf1_1 (Rd.inok ((hH.rd 901 rfl)) (by omega) _)
        have hH := hH.subcel 901 rfl 1502 hf1_2 (Rd.inok ((hH.rd 901 rfl)) (by omega) _)
        have hBi := gtact_B hB (i := i) (by omega)
        refine l_at hF rfl rfl rfl (x_loadn ty46 (hF.tmp 19 rfl) rfl (hH.holds 1499 _ rfl)) ?_; clear hF; intro a hF
        refine wpList_plain rfl fun K hK => ?_
        refine w_alloc 55 hF hH rfl ty46 ?_
        clear hF hH; intro a w b5 hF hH
        refine hK _ _ ?_; clear hK K
        refine wpList_plain rfl fun K hK => ?_
        refine w_storeA 55 hH ty46 rfl (hF.tmp 5 rfl) (hF.tmp 20 rfl) rfl (by simp [Value.cells, Value.oneCell']) rfl ?_
        clear hH; intro w hH
        refine hK _ _ ?_; clear hK K
        refine wpList_nil ?_
        refine hK8 _ _ ?_
        refine wp_seq_k fun khK9 hK9 => ?_
        refine wp_seq_k fun khK10 hK10 => ?_
        have hJr6 : ∀ a w, ∀ b35 : Bool, (b35 = true → (gtact script (i : Int)).key.length ≤ 40 ∧ (gtact script (i : Int)).value.length ≤ 40) → Fr 56 a [(0, .slice A script.length c), (3, .pointer (some ⟨tb, 0, none⟩)), (4, .int .i64 (i : Int)), (5, .pointer (some ⟨b5, 0, none⟩)), (35, .bool b35)] → Hp (fun _ => False) w0 w [(901, .rd_ TactE A script c (fun k => k < w0.heap.size)), (100, X_), (1499, .cels (adr A (Int.toNat (i : Int) * 3)) #[.int .i64 (gtact script (i : Int)).kind, .string (strOfNums (gtact script (i : Int)).key), .string (strOfNums (gtact script (i : Int)).value)]), (1500, .cel (adr A (Int.toNat (i : Int) * 3)) (.int .i64 (gtact script (i : Int)).kind)), (1501, .cel (adr A (Int.toNat (i : Int) * 3 + 1)) (.string (strOfNums (gtact script (i : Int)).key))), (1502, .cel (adr A (Int.toNat (i : Int) * 3 + 2)) (.string (strOfNums (gtact script (i : Int)).value))), (55, .blk b5 (.cells #[.int .i64 (gtact script (i : Int)).kind, .string (strOfNums (gtact script (i : Int)).key), .string (strOfNums (gtact script (i : Int)).value)] 46 (0, 0)))] → khK10 a w := by
          intro a w b35 hjr6_0 hF hH
          refine hK10 a w ?_
          have hJ35 : ∀ a w, ∀ X2 : Asn, ∀ l2 : List Ent, (TrieA 58 62 9 tb l2 X2) → (l2.length ≤ i + 1) → (∀ k, X2.rd k → w0.heap.size ≤ k) → Fr 56 a [(0, .slice A script.length c), (3, .pointer (some ⟨tb, 0, none⟩)), (4, .int .i64 (i : Int)), (5, .pointer (some ⟨b5, 0, none⟩))] → Hp (fun _ => False) w0 w [(901, .rd_ TactE A script c (fun k => k < w0.heap.size)), (100, X2), (1499, .cels (adr A (Int.toNat (i : Int) * 3)) #[.int .i64 (gtact script (i : Int)).kind, .string (strOfNums (gtact script (i : Int)).key), .string (strOfNums (gtact script (i : Int)).value)]), (1500, .cel (adr A (Int.toNat (i : Int) * 3)) (.int .i64 (gtact script (i : Int)).kind)), (1501, .cel (adr A (Int.toNat (i : Int) * 3 + 1)) (.string (strOfNums (gtact script (i : Int)).key))), (1502, .cel (adr A (Int.toNat (i : Int) * 3 + 2)) (.string (strOfNums (gtact script (i : Int)).value))), (55, .blk b5 (.cells #[.int .i64 (gtact script (i : Int)).kind, .string (strOfNums (gtact script (i : Int)).key), .string (strOfNums (gtact script (i : Int)).value)] 46 (0, 0)))] → khK9 a w := by
            intro a w X2 l2 hj35_0 hj35_1 hj35_2 hF hH
            refine hK9 a w ?_
            refine wp_seq_k fun khK11 hK11 => ?_
            have hJr8 : ∀ a w, ∀ b50 : Bool, (b50 = true → (gtact script (i : Int)).key.length ≤ 40) → Fr 56 a [(0, .slice A script.length c), (3, .pointer (some ⟨tb, 0, none⟩)), (4, .int .i64 (i : Int)), (5, .pointer (some ⟨b5, 0, none⟩)), (50, .bool b50)] → Hp (fun _ => False) w0 w [(901, .rd_ TactE A script c (fun k => k < w0.heap.size)), (100, X2), (1499, .cels (adr A (Int.toNat (i : Int) * 3)) #[.int .i64 (gtact script (i : Int)).kind, .string (strOfNums (gtact script (i : Int)).key), .string (strOfNums (gtact script (i : Int)).value)]), (1500, .cel (adr A (Int.toNat (i : Int) * 3)) (.int .i64 (gtact script (i : Int)).kind)), (1501, .cel (adr A (Int.toNat (i : Int) * 3 + 1)) (.string (strOfNums (gtact script (i : Int)).key))), (1502, .cel (adr A (Int.toNat (i : Int) * 3 + 2)) (.string (strOfNums (gtact script (i : Int)).value))), (55, .blk b5 (.cells #[.int .i64 (gtact script (i : Int)).kind, .string (strOfNums (gtact script (i : Int)).key), .string (strOfNums (gtact script (i : Int)).value)] 46 (0, 0)))] → khK11 a w := by
              intro a w b50 hjr8_0 hF hH
              refine hK11 a w ?_
              refine wp_norm_k fun khK12 hK12 => ?_
              have hJ50 : ∀ a w, ∀ X3 : Asn, ∀ l3 : List Ent, (TrieA 58 62 9 tb l3 X3) → (l3.length ≤ i + 1) → (∀ k, X3.rd k → w0.heap.size ≤ k) → Fr 56 a [(0, .slice A script.length c), (3, .pointer (some ⟨tb, 0, none⟩)), (4, .int .i64 (i : Int))] → Hp (fun _ => False) w0 w [(901, .rd_ TactE A script c (fun k => k < w0.heap.size)), (100, X3), (1499, .cels (adr A (Int.toNat (i : Int) * 3)) #[.int .i64 (gtact script (i : Int)).kind, .string (strOfNums (gtact script (i : Int)).key), .string (strOfNums (gtact script (i : Int)).value)]), (1500, .cel (adr A (Int.toNat (i : Int) * 3)) (.int .i64 (gtact script (i : Int)).kind)), (1501, .cel (adr A (Int.toNat (i : Int) * 3 + 1)) (.string (strOfNums (gtact script (i : Int)).key))), (1502, .cel (adr A (Int.toNat (i : Int) * 3 + 2)) (.string (strOfNums (gtact script (i : Int)).value))), (55, .blk b5 (.cells #[.int .i64 (gtact script (i : Int)).kind, .string (strOfNums (gtact script (i : Int)).key), .string (strOfNums (gtact script (i : Int)).value)] 46 (0, 0)))] → khK12 a w := by
                intro a w X3 l3 hj50_0 hj50_1 hj50_2 hF hH
                refine hK12 a w ?_
                refine hK7 _ _ ?_
                refine wp_region_lit ?_
                refine l_at hF rfl rfl rfl (x_move (hF.tmp 4 rfl)) ?_; clear hF; intro a hF
                refine l_at hF rfl rfl rfl (x_add (hF.tmp 15 rfl) rfl (w64 (by omega) (by omega))) ?_; clear hF; intro a hF
                refine l_at hF rfl rfl rfl (x_assign (hF.tmp 16 rfl)) ?_; clear hF; intro a hF
                refine wpList_nil ?_
                exact ⟨_, by omega, ⟨i + 1, X3, l3, rfl, ⟨by omega, by omega⟩, hj50_0, hj50_1, hj50_2, (((hF.bare.add hF 4 rfl).add hF 3 rfl).add hF 0 rfl), hH.sub _ (sub_cons (sub_cons (sub_nil _) 100 rfl) 901 rfl)⟩⟩
              refine wp_cond_split (hF.tmp 50 rfl) (fun hc50 => ?_) (fun hc50 => ?_)
              · have hk50_2 := hc50; try simp only [Bool.or_eq_true, Bool.and_eq_true, Bool.or_eq_false_iff, Bool.and_eq_false_iff, Bool.not_eq_true', Bool.not_eq_false', decide_eq_true_eq, decide_eq_false_iff_not, Bool.not_true, Bool.not_false] at hc50
                have hle := hjr8_0 hc50
                refine wp_region_lit ?_
                refine l_at hF rfl rfl rfl (x_move (hF.tmp 3 rfl)) ?_; clear hF; intro a hF
                refine l_at hF rfl rfl rfl (x_faddr Try.underlying46 rfl ty9 (by decide) (hF.tmp 5 rfl) rfl) ?_; clear hF; intro a hF
                refine l_at hF rfl rfl rfl (x_load1 ty9 (hF.tmp 52 rfl) (blk_cell (hH.at 55 rfl) 1 rfl)) ?_; clear hF; intro a hF
                refine wpList_plain rfl fun K hK => ?_
                refine w_call hF (x_enter Try.func16 (by kernel_rfl) rfl (by simp only [List.map_toArray, List.map_cons, List.map_nil, hF.tmp 51 rfl, hF.tmp 53 rfl] <;> rfl)) (drop1_calls (key := ((gtact script (i : Int)).key)) _ hj35_0 (hH.okX 100 rfl) hBi.key (by omega) (by omega)) rfl rfl ?_
                rintro _ w ⟨Y1, rfl, hY1, hg_⟩; refine ⟨_, rfl, ?_⟩; clear hF; intro a hF; have hsz_ := hH.mods.size; have hH0_ := hH; have hrddrop : ∀ k, Y1.rd k → w0.heap.size ≤ k := (fun k hk => (hg_.rd k hk).elim (fun h => (hH0_.mine 100 _ rfl k h).resolve_left id) (fun h => h.elim (hj35_2 k) (fun h => h.elim (fun h => h.elim) (fun h => Nat.le_trans hsz_ h)))); have hH := hH.grew 100 rfl hg_ (fun k hk => hk.elim)
                refine hK _ _ ?_; clear hK K
                refine wpList_nil ?_
                exact hJ50 _ _ Y1 (dropL l2 ((gtact script (i : Int)).key)) hY1 (drop_le hj35_1) hrddrop (((hF.bare.add hF 4 rfl).add hF 3 rfl).add hF 0 rfl) (hH.sub _ (sub_cons (sub_cons (sub_cons (sub_cons (sub_cons (sub_cons (sub_cons (sub_nil _) 55 rfl) 1502 rfl) 1501 rfl) 1500 rfl) 1499 rfl) 100 rfl) 901 rfl))
              · have hk50_3 := hc50; try simp only [Bool.or_eq_true, Bool.and_eq_true, Bool.or_eq_false_iff, Bool.and_eq_false_iff, Bool.not_eq_true', Bool.not_eq_false', decide_eq_true_eq, decide_eq_false_iff_not, Bool.not_true, Bool.not_false] at hc50
                refine wp_skip ?_
                exact hJ50 _ _ X2 l2 hj35_0 hj35_1 hj35_2 (((hF.bare.add hF 4 rfl).add hF 3 rfl).add hF 0 rfl) (hH.sub _ (sub_cons (sub_cons (sub_cons (sub_cons (sub_cons (sub_cons (sub_cons (sub_nil _) 55 rfl) 1502 rfl) 1501 rfl) 1500 rfl) 1499 rfl) 100 rfl) 901 rfl))
            refine wp_region_lit ?_
            refine l_at hF rfl rfl rfl (x_faddr Try.underlying46 rfl ty9 (by decide) (hF.tmp 5 rfl) rfl) ?_; clear hF; intro a hF
            refine l_at hF rfl rfl rfl (x_load1 ty9 (hF.tmp 42 rfl) (blk_cell (hH.at 55 rfl) 1 rfl)) ?_; clear hF; intro a hF
            refine l_at hF rfl rfl rfl (x_len_sn (xs := ((gtact script (i : Int)).key)) Try.underlying9 (hF.tmp 43 rfl)) ?_; clear hF; intro a hF
            refine l_at hF rfl rfl rfl (x_leq (hF.tmp 44 rfl) rfl) ?_; clear hF; intro a hF
            refine l_at hF rfl rfl rfl (x_move (hF.tmp 45 rfl)) ?_; clear hF; intro a hF
            refine split_bool hF 46 rfl (fun hb46 => ?_) (fun hb46 => ?_)
            · have hc46 := hb46; try simp only [Bool.or_eq_true, Bool.and_eq_true, Bool.or_eq_false_iff, Bool.and_eq_false_iff, Bool.not_eq_true', Bool.not_eq_false', decide_eq_true_eq, decide_eq_false_iff_not, Bool.not_true, Bool.not_false] at hc46
              refine l_atg hF ((wanted_of hF rfl rfl rfl rfl).trans (by rw [hb46]; rfl)) rfl rfl (x_faddr Try.underlying46 rfl ty3 (by decide) (hF.tmp 5 rfl) rfl) ?_; clear hF; intro a hF
              refine l_atg hF ((wanted_of hF rfl rfl rfl rfl).trans (by rw [hb46]; rfl)) rfl rfl (x_load1 ty3 (hF.tmp 47 rfl) (blk_cell (hH.at 55 rfl) 0 rfl)) ?_; clear hF; intro a hF
              refine l_atg hF ((wanted_of hF rfl rfl rfl rfl).trans (by rw [hb46]; rfl)) rfl rfl (x_eql (hF.tmp 48 rfl) rfl) ?_; clear hF; intro a hF
              refine l_at hF rfl rfl rfl (x_pickT (hF.tmp 46 rfl) hb46 (hF.tmp 49 rfl)) ?_; clear hF; intro a hF
              refine wpList_nil ?_
              exact hJr8 _ _ (decide (((gtact script (i : Int)).kind) = 2)) (by intro h; first | (cases h; done) | omega) (((((hF.bare.add hF 50 rfl).add hF 5 rfl).add hF 4 rfl).add hF 3 rfl).add hF 0 rfl) (hH.sub _ (sub_cons (sub_cons (sub_cons (sub_cons (sub_cons (sub_cons (sub_cons (sub_nil _) 55 rfl) 1502 rfl) 1501 rfl) 1500 rfl) 1499 rfl) 100 rfl) 901 rfl))
            · have hc46 := hb46; try simp only [Bool.or_eq_true, Bool.and_eq_true, Bool.or_eq_false_iff, Bool.and_eq_false_iff, Bool.not_eq_true', Bool.not_eq_false', decide_eq_true_eq, decide_eq_false_iff_not, Bool.not_true, Bool.not_false] at hc46
              refine l_offg hF ((wanted_of hF rfl rfl rfl rfl).trans (by rw [hb46]; rfl)) rfl rfl ?_; clear hF; intro a hF
              refine l_offg hF ((wanted_of hF rfl rfl rfl rfl).trans (by rw [hb46]; rfl)) rfl rfl ?_; clear hF; intro a hF
              refine l_offg hF ((wanted_of hF rfl rfl rfl rfl).trans (by rw [hb46]; rfl)) rfl rfl ?_; clear hF; intro a hF
              refine l_at hF rfl rfl rfl (x_pickF (hF.tmp 46 rfl) hb46 rfl) ?_; clear hF; intro a hF
              refine wpList_nil ?_
              exact hJr8 _ _ false (by intro h; first | (cases h; done) | omega) (((((hF.bare.add hF 50 rfl).add hF 5 rfl).add hF 4 rfl).add hF 3 rfl).add hF 0 rfl) (hH.sub _ (sub_cons (sub_cons (sub_cons (sub_cons (sub_cons (sub_cons (sub_cons (sub_nil _) 55 rfl) 1502 rfl) 1501 rfl) 1500 rfl) 1499 rfl) 100 rfl) 901 rfl))
          refine wp_cond_split (hF.tmp 35 rfl) (fun hc35 => ?_) (fun hc35 => ?_)
          · have hk35_4 := hc35; try simp only [Bool.or_eq_true, Bool.and_eq_true, Bool.or_eq_false_iff, Bool.and_eq_false_iff, Bool.not_eq_true', Bool.not_eq_false', decide_eq_true_eq, decide_eq_false_iff_not, Bool.not_true, Bool.not_false] at hc35
            have hle := hjr6_0 hc35
            refine wp_region_lit ?_
            refine l_at hF rfl rfl rfl (x_move (hF.tmp 3 rfl)) ?_; clear hF; intro a hF
            refine l_at hF rfl rfl rfl (x_faddr Try.underlying46 rfl ty9 (by decide) (hF.tmp 5 rfl) rfl) ?_; clear hF; intro a hF
            refine l_at hF rfl rfl rfl (x_load1 ty9 (hF.tmp 37 rfl) (blk_cell (hH.at 55 rfl) 1 rfl)) ?_; clear hF; intro a hF
            refine l_at hF rfl rfl rfl (x_faddr Try.underlying46 rfl ty9 (by decide) (hF.tmp 5 rfl) rfl) ?_; clear hF; intro a hF
            refine l_at hF rfl rfl rfl (x_load1 ty9 (hF.tmp 39 rfl) (blk_cell (hH.at 55 rfl) 2 rfl)) ?_; clear hF; intro a hF
            refine wpList_plain rfl fun K hK => ?_
            refine w_call hF (x_enter Try.func15 (by kernel_rfl) rfl (by simp only [List.map_toArray, List.map_cons, List.map_nil, hF.tmp 36 rfl, hF.tmp 38 rfl, hF.tmp 40 rfl] <;> rfl)) (put_calls (key := ((gtact script (i : Int)).key)) (v := ((gtact script (i : Int)).value)) _ hq0_1 (hH.okX 100 rfl) hBi.key (by omega) hBi.value (by omega) (by omega)) rfl rfl ?_
            rintro _ w ⟨Y1, rfl, hY1, hg_⟩; refine ⟨_, rfl, ?_⟩; clear hF; intro a hF; have hsz_ := hH.mods.size; have hH0_ := hH; have hrdput : ∀ k, Y1.rd k → w0.heap.size ≤ k := (fun k hk => (hg_.rd k hk).elim (fun h => (hH0_.mine 100 _ rfl k h).resolve_left id) (fun h => h.elim (hq0_3 k) (fun h => h.elim (fun h => h.elim) (fun h => Nat.le_trans hsz_ h)))); have hH := hH.grew 100 rfl hg_ (fun k hk => hk.elim)
            refine hK _ _ ?_; clear hK K
            refine wpList_nil ?_
            exact hJ35 _ _ Y1 (putL l ((gtact script (i : Int)).key) ((gtact script (i : Int)).value)) hY1 (put_le (TrieA.sorted hq0_1) hq0_2) hrdput ((((hF.bare.add hF 5 rfl).add hF 4 rfl).add hF 3 rfl).add hF 0 rfl) (hH.sub _ (sub_cons (sub_cons (sub_cons (sub_cons (sub_cons (sub_cons (sub_cons (sub_nil _) 55 rfl) 1502 rfl) 1501 rfl) 1500 rfl) 1499 rfl) 100 rfl) 901 rfl))
          · have hk35_5 := hc35; try simp only [Bool.or_eq_true, Bool.and_eq_true, Bool.or_eq_false_iff, Bool.and_eq_false_iff, Bool.not_eq_true', Bool.not_eq_false', decide_eq_true_eq, decide_eq_false_iff_not, Bool.not_true, Bool.not_false] at hc35
            refine wp_skip ?_
            exact hJ35 _ _ X_ l hq0_1 (by omega) hq0_3 ((((hF.bare.add hF 5 rfl).add hF 4 rfl).add hF 3 rfl).add hF 0 rfl) (hH.sub _ (sub_cons (sub_cons (sub_cons (sub_cons (sub_cons (sub_cons (sub_cons (sub_nil _) 55 rfl) 1502 rfl) 1501 rfl) 1500 rfl) 1499 rfl) 100 rfl) 901 rfl))
        refine wp_region_lit ?_
        refine l_at hF rfl rfl rfl (x_faddr Try.underlying46 rfl ty9 (by decide) (hF.tmp 5 rfl) rfl) ?_; clear hF; intro a hF
        refine l_at hF rfl rfl rfl (x_load1 ty9 (hF.tmp 21 rfl) (blk_cell (hH.at 55 rfl) 1 rfl)) ?_; clear hF; intro a hF
        refine l_at hF rfl rfl rfl (x_len_sn (xs := ((gtact script (i : Int)).key)) Try.underlying9 (hF.tmp 22 rfl)) ?_; clear hF; intro a hF
        refine l_at hF rfl rfl rfl (x_leq (hF.tmp 23 rfl) rfl) ?_; clear hF; intro a hF
        refine l_at hF rfl rfl rfl (x_move (hF.tmp 24 rfl)) ?_; clear hF; intro a hF
        refine split_bool hF 25 rfl (fun hb25 => ?_) (fun hb25 => ?_)
        · have hc25 := hb25; try simp only [Bool.or_eq_true, Bool.and_eq_true, Bool.or_eq_false_iff, Bool.and_eq_false_iff, Bool.not_eq_true', Bool.not_eq_false', decide_eq_true_eq, decide_eq_false_iff_not, Bool.not_true, Bool.not_false] at hc25
          refine l_atg hF ((wanted_of hF rfl rfl rfl rfl).trans (by rw [hb25]; rfl)) rfl rfl (x_faddr Try.underlying46 rfl ty9 (by decide) (hF.tmp 5 rfl) rfl) ?_; clear hF; intro a hF
          refine l_atg hF ((wanted_of hF rfl rfl rfl rfl).trans (by rw [hb25]; rfl)) rfl rfl (x_load1 ty9 (hF.tmp 26 rfl) (blk_cell (hH.at 55 rfl) 2 rfl)) ?_; clear hF; intro a hF
          refine l_atg hF ((wanted_of hF rfl rfl rfl rfl).trans (by rw [hb25]; rfl)) rfl rfl (x_len_sn (xs := ((gtact script (i : Int)).value)) Try.underlying9 (hF.tmp 27 rfl)) ?_; clear hF; intro a hF
          refine l_atg hF ((wanted_of hF rfl rfl rfl rfl).trans (by rw [hb25]; rfl)) rfl rfl (x_leq (hF.tmp 28 rfl) rfl) ?_; clear hF; intro a hF
          refine l_at hF rfl rfl rfl (x_pickT (hF.tmp 25 rfl) hb25 (hF.tmp 29 rfl)) ?_; clear hF; intro a hF
          refine l_at hF rfl rfl rfl (x_move (hF.tmp 30 rfl)) ?_; clear hF; intro a hF
          refine split_bool hF 31 rfl (fun hb31 => ?_) (fun hb31 => ?_)
          · have hc31 := hb31; try simp only [Bool.or_eq_true, Bool.and_eq_true, Bool.or_eq_false_iff, Bool.and_eq_false_iff, Bool.not_eq_true', Bool.not_eq_false', decide_eq_true_eq, decide_eq_false_iff_not, Bool.not_true, Bool.not_false] at hc31
            refine l_atg hF ((wanted_of hF rfl rfl rfl rfl).trans (by rw [hb31]; rfl)) rfl rfl (x_faddr Try.underlying46 rfl ty3 (by decide) (hF.tmp 5 rfl) rfl) ?_; clear hF; intro a hF
            refine l_atg hF ((wanted_of hF rfl rfl rfl rfl).trans (by rw [hb31]; rfl)) rfl rfl (x_load1 ty3 (hF.tmp 32 rfl) (blk_cell (hH.at 55 rfl) 0 rfl)) ?_; clear hF; intro a hF
            refine l_atg hF ((wanted_of hF rfl rfl rfl rfl).trans (by rw [hb31]; rfl)) rfl rfl (x_eql (hF.tmp 33 rfl) rfl) ?_; clear hF; intro a hF
            refine l_at hF rfl rfl rfl (x_pickT (hF.tmp 31 rfl) hb31 (hF.tmp 34 rfl)) ?_; clear hF; intro a hF
            refine wpList_nil ?_
            exact hJr6 _ _ (decide (((gtact script (i : Int)).kind) = 1)) (by intro h; first | (cases h; done) | exact ⟨by omega, by omega⟩) (((((hF.bare.add hF 35 rfl).add hF 5 rfl).add hF 4 rfl).add hF 3 rfl).add hF 0 rfl) (hH.sub _ (sub_cons (sub_cons (sub_cons (sub_cons (sub_cons (sub_cons (sub_cons (sub_nil _) 55 rfl) 1502 rfl) 1501 rfl) 1500 rfl) 1499 rfl) 100 rfl) 901 rfl))
          · have hc31 := hb31; try simp only [Bool.or_eq_true, Bool.and_eq_true, Bool.or_eq_false_iff, Bool.and_eq_false_iff, Bool.not_eq_true', Bool.not_eq_false', decide_eq_true_eq, decide_eq_false_iff_not, Bool.not_true, Bool.not_false] at hc31
            refine l_offg hF ((wanted_of hF rfl rfl rfl rfl).trans (by rw [hb31]; rfl)) rfl rfl ?_; clear hF; intro a hF
            refine l_offg hF ((wanted_of hF rfl rfl rfl rfl).trans (by rw [hb31]; rfl)) rfl rfl ?_; clear hF; intro a hF
            refine l_offg hF ((wanted_of hF rfl rfl rfl rfl).trans (by rw [hb31]; rfl)) rfl rfl ?_; clear hF; intro a hF
            refine l_at hF rfl rfl rfl (x_pickF (hF.tmp 31 rfl) hb31 rfl) ?_; clear hF; intro a hF
            refine wpList_nil ?_
            exact hJr6 _ _ false (by intro h; first | (cases h; done) | exact ⟨by omega, by omega⟩) (((((hF.bare.add hF 35 rfl).add hF 5 rfl).add hF 4 rfl).add hF 3 rfl).add hF 0 rfl) (hH.sub _ (sub_cons (sub_cons (sub_cons (sub_cons (sub_cons (sub_cons (sub_cons (sub_nil _) 55 rfl) 1502 rfl) 1501 rfl) 1500 rfl) 1499 rfl) 100 rfl) 901 rfl))
        · have hc25 := hb25; try simp only [Bool.or_eq_true, Bool.and_eq_true, Bool.or_eq_false_iff, Bool.and_eq_false_iff, Bool.not_eq_true', Bool.not_eq_false', decide_eq_true_eq, decide_eq_false_iff_not, Bool.not_true, Bool.not_false] at hc25
          refine l_offg hF ((wanted_of hF rfl rfl rfl rfl).trans (by rw [hb25]; rfl)) rfl rfl ?_; clear hF; intro a hF
          refine l_offg hF ((wanted_of hF rfl rfl rfl rfl).trans (by rw [hb25]; rfl)) rfl rfl ?_; clear hF; intro a hF
          refine l_offg hF ((wanted_of hF rfl rfl rfl rfl).trans (by rw [hb25]; rfl)) rfl rfl ?_; clear hF; intro a hF
          refine l_offg hF ((wanted_of hF rfl rfl rfl rfl).trans (by rw [hb25]; rfl)) rfl rfl ?_; clear hF; intro a hF
          refine l_at hF rfl rfl rfl (x_pickF (hF.tmp 25 rfl) hb25 rfl) ?_; clear hF; intro a hF
          refine l_at hF rfl rfl rfl (x_move (hF.tmp 30 rfl)) ?_; clear hF; intro a hF
          refine l_offg hF ((wanted_of hF rfl rfl rfl rfl).trans rfl) rfl rfl ?_; clear hF; intro a hF
          refine l_offg hF ((wanted_of hF rfl rfl rfl rfl).trans rfl) rfl rfl ?_; clear hF; intro a hF
          refine l_offg hF ((wanted_of hF rfl rfl rfl rfl).trans rfl) rfl rfl ?_; clear hF; intro a hF
          refine l_at hF rfl rfl rfl (x_pickF (hF.tmp 31 rfl) rfl rfl) ?_; clear hF; intro a hF
          refine wpList_nil ?_
          exact hJr6 _ _ false (by intro h; first | (cases h; done) | exact ⟨by omega, by omega⟩) (((((hF.bare.add hF 35 rfl).add hF 5 rfl).add hF 4 rfl).add hF 3 rfl).add hF 0 rfl) (hH.sub _ (sub_cons (sub_cons (sub_cons (sub_cons (sub_cons (sub_cons (sub_cons (sub_nil _) 55 rfl) 1502 rfl) 1501 rfl) 1500 rfl) 1499 rfl) 100 rfl) 901 rfl))
      · have hk14_6 := hc14; try simp only [Bool.or_eq_true, Bool.and_eq_true, Bool.or_eq_false_iff, Bool.and_eq_false_iff, Bool.not_eq_true', Bool.not_eq_false', decide_eq_true_eq, decide_eq_false_iff_not, Bool.not_true, Bool.not_false] at hc14
        refine wp_exit ?_
        refine hK3 _ _ ?_
        refine wp_seq_k fun khK13 hK13 => ?_
        refine wp_region_lit ?_
        refine l_at hF rfl rfl rfl (x_move (hF.tmp 3 rfl)) ?_; clear hF; intro a hF
        refine l_at hF rfl rfl rfl (x_assign (hF.tmp 55 rfl)) ?_; clear hF; intro a hF
        refine wpList_nil ?_
        refine hK13 _ _ ?_
        refine wp_ret ?_
        try simp only [Exit.then, Exit.inBlock]
        exact fin_ret hF (res1 hF rfl rfl) ⟨tb, X_, l, rfl, hq0_1, by omega, hH.mods, hH.okX 100 rfl, fun k hk => (hH.mine 100 _ rfl k hk).resolve_left id, hq0_3⟩
    · have hc11 := hb11; try simp only [Bool.or_eq_true, Bool.and_eq_true, Bool.or_eq_false_iff, Bool.and_eq_false_iff, Bool.not_eq_true', Bool.not_eq_false', decide_eq_true_eq, decide_eq_false_iff_not, Bool.not_true, Bool.not_false] at hc11
      refine l_offg hF ((wanted_of hF rfl rfl rfl rfl).trans (by rw [hb11]; rfl)) rfl rfl ?_; clear hF; intro a hF
      refine l_offg hF ((wanted_of hF rfl rfl rfl rfl).trans (by rw [hb11]; rfl)) rfl rfl ?_; clear hF; intro a hF
      refine l_at hF rfl rfl rfl (x_pickF (hF.tmp 11 rfl) hb11 rfl) ?_; clear hF; intro a hF
      refine wpList_nil ?_
      refine hK6 _ _ ?_
      refine wp_cond_false (hF.tmp 14 rfl) ?_
      refine wp_exit ?_
      refine hK3 _ _ ?_
      refine wp_seq_k fun khK14 hK14 => ?_
      refine wp_region_lit ?_
      refine l_at hF rfl rfl rfl (x_move (hF.tmp 3 rfl)) ?_; clear hF; intro a hF
      refine l_at hF rfl rfl rfl (x_assign (hF.tmp 55 rfl)) ?_; clear hF; intro a hF
      refine wpList_nil ?_
      refine hK14 _ _ ?_
      refine wp_ret ?_
      try simp only [Exit.then, Exit.inBlock]
      exact fin_ret hF (res1 hF rfl rfl) ⟨tb, X_, l, rfl, hq0_1, by omega, hH.mods, hH.okX 100 rfl, fun k hk => (hH.mine 100 _ rfl k hk).resolve_left id, hq0_3⟩

end Go.Proofs.Ytlcnoibjhmflnaa.Act
