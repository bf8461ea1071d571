/- A piece taken out of a slice of one's own: append over itself, clear. -/
import Derived.Test.YtfocpadeflpabaaGreatDoorFldZa
set_option linter.unusedVariables false
set_option linter.unusedSimpArgs false
namespace Go.Proofs.YtfocpadeflpabaaGreatDoor.Sx
open Go.RowKit
section
variable {α : Type} {E : Rep α} {T : TypeId} {P : Program} {w w0 w' : World} {ok : Nat → Prop} {xs : List α} {A : Option Addr} {c : Nat} {t e : TypeId} {z : Value} {by' : Nat} {ag : Bool}
theorem row_of_cells {g : Nat} {cur : Array Value} {cs : List Value} (hh : w.heap[g]? = some (.cells cur T (0, 0))) (hn : xs.length ≤ c) (hc : c ≤ maxLen) (hs : cur.size = c * E.n) (ht : cur.toList.take (xs.length * E.n) = cs) (he : Elems E w ok xs cs) : Row E T w ok (.slice (some ⟨g, 0, none⟩) xs.length c) xs :=
  ⟨cs, ⟨he.1, .inr ⟨g, c, cur, rfl, Nat.zero_le _, hh, hn, hc, hs, ht⟩⟩, he⟩
/-- xs[:i] and xs[j:], one behind the other. -/
theorem Row.del (ht : P.underlying t = some (.slice T)) (hT : TyI P T z E.n by' ag) (ty : TypeId) (h : Row E T w ok (.slice A xs.length c) xs) {i j : Nat} (hij : i < j) (hj : j ≤ xs.length) (h1 : ∀ k, ok k → (Value.slice A xs.length c).ownBlock ≠ some k) :
    ∃ w', (Builtin.append_ #[t, t] ty #[.slice A (xs.take i).length c, .slice (dropA A c j E.n) (xs.drop j).length (c - j)]).run P w = .ok (.slice A (xs.take i ++ xs.drop j).length c) w' ∧ Row E T w' ok (.slice A (xs.take i ++ xs.drop j).length c) (xs.take i ++ xs.drop j) ∧
      Mods (fun k => (Value.slice A xs.length c).ownBlock = some k) w w' := by
  obtain ⟨cs, ho, he⟩ := h
  have hl := ho.1
  have hE := E.pos
  rcases ho.2 with ⟨_, h0⟩ | ⟨g, cap, cur, h3, _, hh, hnc, hcm, hcs, htk⟩
  · omega
  · injection h3 with h31 h32 h33
    subst h31 h33
    obtain ⟨ti, hti, htz, hts, htb⟩ := hT.parts
    have len1 : (xs.take i).length = i := by rw [List.length_take]; omega
    have len2 : (xs.drop j).length = xs.length - j := List.length_drop
    have len3 : (xs.take i ++ xs.drop j).length = i + (xs.length - j) := by rw [List.length_append, len1, len2]
    have hnl : (cs.drop (j * E.n)).length = (xs.length - j) * ti.size := by rw [hts, List.length_drop, hl, Nat.sub_mul]
    have hcell : ∀ q u, cs[q]? = some u → cur[q]? = some u := fun q u hq => by
      rw [← htk, List.getElem?_take] at hq
      split at hq
      · simpa using hq
      · cases hq
    have hsrc : ∃ ad, dropA (some ⟨g, 0, none⟩) c j E.n = some ad ∧ ∀ q u, (cs.drop (j * E.n))[q]? = some u → w.cell? (ad.add q) = some u := by
      by_cases hcj : c = j
      · refine ⟨⟨g, 0, none⟩, by simp [dropA, hcj], fun q u hq => ?_⟩
        have : cs.drop (j * E.n) = [] := by
          apply List.drop_of_length_le
          rw [hl]
          exact Nat.mul_le_mul_right _ (by omega)
        rw [this] at hq
        simp at hq
      · refine ⟨⟨g, 0 + j * E.n, none⟩, by simp only [dropA, if_neg hcj, Option.map_some, add_off], fun q u hq => ?_⟩
        rw [List.getElem?_drop] at hq
        rw [add_off, cell_of_row w g _ cur T (0, 0) hh, Nat.zero_add]
        exact hcell _ u hq
    obtain ⟨ad, had, hsc⟩ := hsrc
    have hone : ∀ u ∈ cs.drop (j * E.n), u.oneCell' = true := fun u hu => he.one u (List.mem_of_mem_drop hu)
    have hmul : i * E.n + (xs.length - j) * E.n ≤ c * E.n := by rw [← Nat.add_mul]; exact Nat.mul_le_mul_right _ (by omega)
    have hr := run_append_room (P := P) w t ty T ti ht hti g i c cur hh ad (xs.length - j) (c - j) _ hnl hsc hone (by omega) (by rw [hnl, hts, hcs]; exact hmul)
    rw [← had] at hr
    have hmod : Mods (fun k => (Value.slice (some ⟨g, 0, none⟩) xs.length c).ownBlock = some k) w (w.setRow g (cur.toList.take (i * ti.size) ++ cs.drop (j * E.n) ++ cur.toList.drop (i * ti.size + (cs.drop (j * E.n)).length)).toArray) :=
      ⟨rfl, rfl, rfl, by simp, fun k _ hk => setRow_other w g k _ (fun e => hk (by simp [Value.ownBlock, e]))⟩
    refine ⟨_, ?_, ?_, hmod⟩
    · rw [len1, len2, len3]; exact hr
    · refine row_of_cells (cs := cs.take (i * E.n) ++ cs.drop (j * E.n)) (setRow_heap w g cur _ T _ hh) (by rw [len3]; omega) hcm ?_ ?_ ?_
      · simp only [List.size_toArray, List.length_append, List.length_take, List.length_drop, Array.length_toList, hnl, hts, hcs]
        have := hmul
        have h9 : (cs.length - j * E.n) = (xs.length - j) * E.n := by rw [hl, Nat.sub_mul]
        omega
      · have e1 : cur.toList.take (i * ti.size) = cs.take (i * E.n) := by
          rw [← htk, List.take_take, hts]
          congr 1
          have : i * E.n ≤ xs.length * E.n := Nat.mul_le_mul_right _ (by omega)
          omega
        rw [e1]
        have e2 : (xs.take i ++ xs.drop j).length * E.n = (cs.take (i * E.n) ++ cs.drop (j * E.n)).length := by
          rw [len3, Nat.add_mul, List.length_append, hnl, hts, List.length_take, hl]
          have : i * E.n ≤ xs.length * E.n := Nat.mul_le_mul_right _ (by omega)
          omega
        show (cs.take (i * E.n) ++ cs.drop (j * E.n) ++ _).take _ = _
        rw [e2]
        exact List.take_left
      · exact ((he.take i).append (he.drop j)).move (fun k hk hlt => hmod.block k hlt (h1 k hk)) (fun k hk _ => hk)
end
section
variable {ds : List Deferred} {P : Program} {a : Act} {w w0 w' : World} {Q : Exit → Act → World → Prop} {nt d : Nat} {L : List (Nat × Value)} {z : Value} {B : Nat → Prop} {H : List (Nat × Asn)} {ty : TypeId} {pos : String} {af : Array Edge} {x y lo : Operand} {t e : TypeId} {by' : Nat} {ag : Bool}
  {α : Type} {E : Rep α} {ok : Nat → Prop} {xs : List α} {A : Option Addr} {c : Nat} {gg : Option (Nat × Bool)} {K : Act → World → Prop} {dst : Option Tmp}
theorem w_appendDel (l : Nat) {i j : Nat} (hF : FrD ds nt a L) (hH : Hp B w0 w H) (hn : Nat.blt d nt = true) (ht : P.underlying t = some (.slice e)) (hT : TyI P e z E.n by' ag)
    (hl : get H l = some (.row E e (.slice A xs.length c) xs ok)) (hij : i < j) (hj : j ≤ xs.length) (hx : a.eval x = .slice A (xs.take i).length c) (hy : a.eval y = .slice (dropA A c j E.n) (xs.drop j).length (c - j))
    (k' : ∀ a' w', FrD ds nt a' ((d, .slice A (xs.take i ++ xs.drop j).length c) :: L) → Hp B w0 w' ((l, .row E e (.slice A (xs.take i ++ xs.drop j).length c) (xs.take i ++ xs.drop j) ok) :: H) → K a' w') :
    Oper.wp P ⟨some d, .call ⟨.builtin .append, #[x, y], #[t, t]⟩, ty, pos, af, gg⟩ a w K Q := by
  obtain ⟨w', hrun, hrow, hmod⟩ := (hH.row l hl).del ht hT ty hij hj (fun k hk e => hH.self l _ hl k e hk)
  have hto : To P ⟨some d, .call ⟨.builtin .append, #[x, y], #[t, t]⟩, ty, pos, af, gg⟩ a w (.slice A (xs.take i ++ xs.drop j).length c) w' := by
    unfold To
    generalize a.eval = ρ at *
    simp only [execOp, resolve, invoke, builtin, Sem.run_bind, Sem.run_pure, Result.andThen_ok, List.map_toArray, List.map_cons, List.map_nil, hx, hy, hrun]
  refine w_to hF hto rfl hn fun a' hF' => k' a' w' hF' ?_
  have hob : ∀ n k, (Value.slice A n c).ownBlock = some k → (Value.slice A xs.length c).ownBlock = some k := fun n k hk => by cases A <;> exact hk
  refine hH.one hmod l _ (fun k hk => ⟨_, hl, hk⟩) hrow (fun k hk => .inl ⟨_, hl, hob _ k hk⟩) (fun k hk => .inr (.inl ⟨l, _, hl, hk⟩)) (fun k hk => ?_) (fun k hk hk2 => hH.self l _ hl k (hob _ k hk) hk2)
  rcases hk with hk | hk
  · exact hrow.lt k hk
  · exact Nat.lt_of_lt_of_le (hH.inb l _ hl k (.inr hk)) hmod.size
/-- What is behind a slice's end, up to its room. -/
theorem x_slice_cap {k k' : IntKind} {m q : Int} {n : Nat} (ht : P.underlying t = some (.slice e)) (h : TyI P e z E.n by' ag) (hx : a.eval x = .slice A n c) (hl' : a.eval lo = .int k m) (hy : a.eval y = .int k' q) (h0 : 0 ≤ m) (h01 : m ≤ q) (h1 : q ≤ c) :
    At P ⟨dst, .slice t x (some lo) (some y) Option.none, ty, pos, af, gg⟩ a w (.slice (dropA A c m.toNat E.n) (q.toNat - m.toNat) (c - m.toNat)) := by
  unfold At; generalize a.eval = ρ at *
  have hq0 : 0 ≤ q := by omega
  have hmq : m ≤ ((q.toNat : Nat) : Int) := by omega
  simp [execOp, Instr.sliceAt, Instr.slice, Instr.sliceBounds, Instr.sliceBound, asIntOf, hx, hy, hl', run_underlying ht, h.size, h0, h1, hq0, hmq, dropA, go_sem]
  intro hlt
  omega
theorem w_clear (l : Nat) {m : Nat} (hH : Hp B w0 w H) (ht : P.underlying t = some (.slice e)) (hT : TyI P e z E.n by' ag) (hz : z.cells.size = E.n) (h1z : ∀ u ∈ z.cells.toList, u.oneCell' = true)
    (hl : get H l = some (.row E e (.slice A xs.length c) xs ok)) (hm0 : 0 < m) (hm : xs.length + m ≤ c) (hx : a.eval x = .slice (dropA A c xs.length E.n) m (c - xs.length))
    (k' : ∀ w', Hp B w0 w' ((l, .row E e (.slice A xs.length c) xs ok) :: H) → K a w') :
    Oper.wp P ⟨Option.none, .call ⟨.builtin .clear, #[x], #[t]⟩, ty, pos, af, gg⟩ a w K Q := by
  obtain ⟨cs, ho, he⟩ := hH.row l hl
  have hlen := ho.1
  have hE := E.pos
  rcases ho.2 with ⟨h3, h0⟩ | ⟨g, cap, cur, h3, _, hh, hnc, hcm, hcs, htk⟩
  · injection h3 with h31 h32 h33; omega
  · injection h3 with h31 h32 h33
    subst h31 h33
    have hd : dropA (some ⟨g, 0, Option.none⟩) c xs.length E.n = some ⟨g, xs.length * E.n, Option.none⟩ := by simp only [dropA, if_neg (show ¬ c = xs.length by omega), Option.map_some, add_off, Nat.zero_add]
    have hzs : (Builtin.zeroCells z.cells m).toList.length = m * E.n := by simp [Builtin.zeroCells, hz]
    have hz1 : ∀ u ∈ (Builtin.zeroCells z.cells m).toList, u.oneCell' = true := by
      intro u hu
      simp only [Builtin.zeroCells, Array.toList_map, List.mem_map] at hu
      obtain ⟨q, _, rfl⟩ := hu
      have hlt : q % z.cells.size < z.cells.size := Nat.mod_lt _ (by omega)
      rw [getElem!_pos z.cells _ hlt]
      exact h1z _ (by simp)
    have hmul : xs.length * E.n + m * E.n ≤ c * E.n := by rw [← Nat.add_mul]; exact Nat.mul_le_mul_right _ hm
    have hst := run_storeCells_at P g (xs.length * E.n) e (Builtin.zeroCells z.cells m).toList 0 cur w hh (by rw [hzs, hcs]; omega) hz1
    simp only [Nat.add_zero] at hst
    rw [hd] at hx
    have hs : To P ⟨Option.none, .call ⟨.builtin .clear, #[x], #[t]⟩, ty, pos, af, gg⟩ a w (.tuple #[]) (w.setRow g (cur.toList.take (xs.length * E.n) ++ (Builtin.zeroCells z.cells m).toList ++ cur.toList.drop (xs.length * E.n + (Builtin.zeroCells z.cells m).toList.length)).toArray) := by
      obtain ⟨m', rfl⟩ : ∃ m', m = m' + 1 := ⟨m - 1, by omega⟩
      unfold To; generalize a.eval = ρ at *
      simp [execOp, resolve, invoke, builtin, Builtin.clear_, hx, run_underlying ht, hT.zero, go_sem]
      simp [Value.cells] at hst
      rw [hst]
      simp [Value.cells, go_sem]
    unfold Oper.wp
    rw [show (execOp a.eval _).run P w = .ok (.value _) _ from hs, Oper.upon_value]
    have hmod : Mods (fun k => (Value.slice (some ⟨g, 0, Option.none⟩) xs.length c).ownBlock = some k) w (w.setRow g (cur.toList.take (xs.length * E.n) ++ (Builtin.zeroCells z.cells m).toList ++ cur.toList.drop (xs.length * E.n + (Builtin.zeroCells z.cells m).toList.length)).toArray) :=
      ⟨rfl, rfl, rfl, by simp, fun k _ hk => setRow_other w g k _ (fun e => hk (by simp [Value.ownBlock, e]))⟩
    have hrow : Row E e (w.setRow g (cur.toList.take (xs.length * E.n) ++ (Builtin.zeroCells z.cells m).toList ++ cur.toList.drop (xs.length * E.n + (Builtin.zeroCells z.cells m).toList.length)).toArray) ok (.slice (some ⟨g, 0, Option.none⟩) xs.length c) xs := by
      refine row_of_cells (cs := cs) (setRow_heap w g cur _ e _ hh) hnc hcm ?_ ?_ (he.move (fun k hk hlt => hmod.block k hlt (fun e => hH.self l _ hl k e hk)) (fun k hk _ => hk))
      · simp only [List.size_toArray, List.length_append, List.length_take, List.length_drop, Array.length_toList, hzs, hcs]
        omega
      · show (cur.toList.take (xs.length * E.n) ++ (Builtin.zeroCells z.cells m).toList ++ _).take _ = _
        rw [List.append_assoc, List.take_append_of_le_length (by rw [List.length_take, show cur.toList.length = c * E.n by rw [Array.length_toList, hcs]]; omega), List.take_take, Nat.min_self]
        exact htk
    refine k' _ (hH.one hmod l _ (fun k hk => ⟨_, hl, hk⟩) hrow (fun k hk => .inl ⟨_, hl, hk⟩) (fun k hk => .inr (.inl ⟨l, _, hl, hk⟩)) (fun k hk => ?_) (fun k hk hk2 => hH.self l _ hl k hk hk2))
    rcases hk with hk | hk
    · exact hrow.lt k hk
    · exact Nat.lt_of_lt_of_le (hH.inb l _ hl k (.inr hk)) hmod.size
/-- A slice with all three bounds; what it yields is not used. -/
theorem x_slice3l {k k' k2 : IntKind} {m q r : Int} {n : Nat} {hi mx_ : Operand} (ht : P.underlying t = some (.slice e)) (h : TyI P e z E.n by' ag) (hx : a.eval x = .slice A n c) (hl' : a.eval lo = .int k m) (hy : a.eval hi = .int k' q) (hz : a.eval mx_ = .int k2 r) (h0 : 0 ≤ m) (h01 : m ≤ q) (h1 : q ≤ r) (h2 : r ≤ c) :
    At P ⟨dst, .slice t x (some lo) (some hi) (some mx_), ty, pos, af, gg⟩ a w (.slice (if r.toNat = m.toNat then A else A.map (fun x => x.add (m.toNat * E.n))) (q.toNat - m.toNat) (r.toNat - m.toNat)) := by
  unfold At; generalize a.eval = ρ at *
  have hq0 : 0 ≤ q := by omega
  have hr0 : 0 ≤ r := by omega
  have e1 : q ≤ max r 0 := by omega
  have e2 : m ≤ max q 0 := by omega
  simp [execOp, Instr.sliceAt, Instr.slice, Instr.sliceBounds, Instr.sliceBound, asIntOf, hx, hy, hl', hz, run_underlying ht, h.size, h0, h2, hq0, hr0, e1, e2, go_sem]
end
end Go.Proofs.YtfocpadeflpabaaGreatDoor.Sx
