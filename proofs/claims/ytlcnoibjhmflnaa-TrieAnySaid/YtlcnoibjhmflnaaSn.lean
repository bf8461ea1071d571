/- Texts as lists of their bytes: as elements, as pieces, as rows. -/
import Derived.Test.YtlcnoibjhmflnaaStr
import Derived.Lib.AppendStr
import Derived.Lib.ConvBytes
set_option linter.unusedVariables false
set_option linter.unusedSimpArgs false
namespace Go.Proofs.Ytlcnoibjhmflnaa.Sx
open Go.RowKit
/-- Bytes. -/
def Byte (xs : List Int) : Prop := ∀ n ∈ xs, 0 ≤ n ∧ n < 256
def Rep.sn : Rep (List Int) := Rep.flat (fun xs => Value.string (strOfNums xs)) (fun _ => rfl)
theorem sn_of (s : ByteArray) : ∃ xs : List Int, s = strOfNums xs ∧ Byte xs := by
  refine ⟨s.data.toList.map fun b => (b.toNat : Int), ?_, fun n hn => ?_⟩
  · apply ByteArray.ext
    apply Array.ext'
    unfold strOfNums
    have e : ((fun n : Int => UInt8.ofNat n.toNat) ∘ fun b : UInt8 => (b.toNat : Int)) = id := by funext b; simp
    simp only [List.map_map, e, List.map_id]
  · obtain ⟨b, _, rfl⟩ := List.mem_map.1 hn
    have := b.toNat_lt
    omega
theorem opens_sn {P : Program} {t : TypeId} (ht : P.underlying t = some .string) : Opens P t Rep.sn (fun xs => Byte xs ∧ xs.length ≤ maxLen) := by
  intro H enc w base spare held fuel cs x h
  obtain ⟨s, hs, hl⟩ := opens_str ht enc w base spare held fuel cs x h
  obtain ⟨xs, rfl, hb⟩ := sn_of s
  exact ⟨xs, hs, hb, by rw [strOfNums_size] at hl; exact hl⟩
theorem i64_wf {n : Int} (h : (Lit.int .i64 n).wf = true) : -9223372036854775808 ≤ n ∧ n < 9223372036854775808 := by
  simp [Lit.wf, IntKind.min, IntKind.max, IntKind.signed, IntKind.bits] at h
  exact ⟨by omega, by omega⟩
theorem u64_wf {n : Int} (h : (Lit.int .u64 n).wf = true) : 0 ≤ n ∧ n < 18446744073709551616 := by
  simp [Lit.wf, IntKind.min, IntKind.max, IntKind.signed, IntKind.bits] at h
  exact ⟨by omega, by omega⟩
theorem u8_inj {x y : Int} (hx : 0 ≤ x ∧ x < 256) (hy : 0 ≤ y ∧ y < 256) (h : UInt8.ofNat x.toNat = UInt8.ofNat y.toNat) : x = y := by
  have := congrArg UInt8.toNat h
  rw [UInt8.toNat_ofNat', UInt8.toNat_ofNat'] at this
  omega
theorem sn_inj : ∀ (xs ys : List Int), Byte xs → Byte ys → strOfNums xs = strOfNums ys → xs = ys := by
  intro xs ys hx hy h
  have h2 : xs.map (fun n => UInt8.ofNat n.toNat) = ys.map (fun n => UInt8.ofNat n.toNat) := by
    rw [← strOfNums_data, ← strOfNums_data, h]
  clear h
  induction xs generalizing ys with
  | nil => cases ys with
    | nil => rfl
    | cons y ys => cases h2
  | cons x xs ih => cases ys with
    | nil => cases h2
    | cons y ys =>
      rw [List.map_cons, List.map_cons] at h2
      injection h2 with h3 h4
      rw [u8_inj (hx x (by simp)) (hy y (by simp)) h3, ih ys (fun z hz => hx z (List.mem_cons_of_mem _ hz)) (fun z hz => hy z (List.mem_cons_of_mem _ hz)) h4]
theorem sn_eq {xs ys : List Int} (hx : Byte xs) (hy : Byte ys) : decide (strOfNums xs = strOfNums ys) = decide (xs = ys) := by
  by_cases h : xs = ys
  · subst h; simp
  · rw [decide_eq_false h, decide_eq_false (fun e => h (sn_inj xs ys hx hy e))]
theorem sn_nil (xs : List Int) : decide (strOfNums xs = strOfNums []) = decide (xs.length = 0) := by
  by_cases h : xs.length = 0
  · rw [List.length_eq_zero_iff.1 h]; simp
  · rw [decide_eq_false h, decide_eq_false (fun e => h (by rw [← strOfNums_size, e]; rfl))]
theorem Byte.app {xs ys : List Int} (h : Byte xs) (k : Byte ys) : Byte (xs ++ ys) := fun n hn => (List.mem_append.1 hn).elim (h n) (k n)
theorem Byte.take {xs : List Int} (h : Byte xs) (m : Nat) : Byte (xs.take m) := fun n hn => h n (List.mem_of_mem_take hn)
theorem Byte.drop {xs : List Int} (h : Byte xs) (m : Nat) : Byte (xs.drop m) := fun n hn => h n (List.mem_of_mem_drop hn)
theorem Byte.nil : Byte [] := fun n hn => by cases hn
theorem Byte.gi {xs : List Int} (h : Byte xs) (i : Int) : 0 ≤ gi xs i ∧ gi xs i < 256 := by
  unfold Sx.gi
  rw [List.getD_eq_getElem?_getD]
  cases hg : xs[i.toNat]? with
  | none => simp
  | some x => exact h x (List.mem_of_getElem? hg)
section
variable {P : Program} {a : Act} {w : World} {dst : Option Tmp} {ty : TypeId} {pos : String} {af : Array Edge} {x y z : Operand} {t t' : TypeId} {gg : Option (Nat × Bool)} {k k2 : IntKind}
theorem sn_cut (xs : List Int) (i j : Nat) : (strOfNums xs).extract i j = strOfNums ((xs.take j).drop i) := by
  apply ByteArray.ext
  simp [strOfNums, List.map_take, List.map_drop]
  rw [List.take_drop]
  by_cases h : i ≤ j
  · rw [show i + (j - i) = j by omega]
  · rw [List.drop_eq_nil_of_le (by rw [List.length_take]; omega), List.drop_eq_nil_of_le (by rw [List.length_take]; omega)]
theorem sn_drop (xs : List Int) (i : Nat) : (strOfNums xs).extract i xs.length = strOfNums (xs.drop i) := by
  rw [sn_cut, List.take_length]
/-- s[i:] -/
theorem x_sliceSl {xs : List Int} {m : Int} (ht : P.underlying t = some .string) (hx : a.eval x = .string (strOfNums xs)) (hy : a.eval y = .int k m) (h0 : 0 ≤ m) (h1 : m ≤ xs.length) : At P ⟨dst, .slice t x (some y) Option.none Option.none, ty, pos, af, gg⟩ a w (.string (strOfNums (xs.drop m.toNat))) := by
  have hs := strOfNums_size xs
  unfold At; generalize a.eval = ρ at *
  simp [execOp, Instr.sliceAt, Instr.slice, Instr.sliceBounds, Instr.sliceBound, asIntOf, hx, hy, run_underlying ht, h0, hs, h1, sn_drop, go_sem]
/-- s[i:j] -/
theorem x_sliceSlh {xs : List Int} {m q : Int} (ht : P.underlying t = some .string) (hx : a.eval x = .string (strOfNums xs)) (hy : a.eval y = .int k m) (hz : a.eval z = .int k2 q) (h0 : 0 ≤ m) (h01 : m ≤ q) (h1 : q ≤ xs.length) : At P ⟨dst, .slice t x (some y) (some z) Option.none, ty, pos, af, gg⟩ a w (.string (strOfNums ((xs.take q.toNat).drop m.toNat))) := by
  have hs := strOfNums_size xs
  have h2 : 0 ≤ q := Int.le_trans h0 h01
  have h3 : ¬ (max q 0 < m) := by omega
  unfold At; generalize a.eval = ρ at *
  simp [execOp, Instr.sliceAt, Instr.slice, Instr.sliceBounds, Instr.sliceBound, asIntOf, hx, hy, hz, run_underlying ht, h0, h2, h3, h01, hs, h1, sn_cut, go_sem]
/-- s[i] -/
theorem x_idxS {xs : List Int} {i : Int} (ht : P.underlying t = some .string) (hx : a.eval x = .string (strOfNums xs)) (hy : a.eval y = .int k i) (hb : Byte xs) (h0 : 0 ≤ i) (h1 : i < xs.length) : At P ⟨dst, .index t x y, ty, pos, af, gg⟩ a w (.int .u8 (gi xs i)) := by
  obtain ⟨j, rfl⟩ := Int.eq_ofNat_of_zero_le h0
  have hj : j < xs.length := by omega
  have hs : (strOfNums xs)[j]? = some (UInt8.ofNat (gi xs (j : Int)).toNat) := by
    have hsz : j < (strOfNums xs).size := by rw [strOfNums_size]; exact hj
    rw [getElem?_pos (strOfNums xs) j hsz]
    have e1 : (strOfNums xs)[j]'hsz = (strOfNums xs).data[j]'hsz := rfl
    rw [e1, ← Array.getElem_toList]
    simp only [strOfNums_data, List.getElem_map]
    simp [gi, List.getD_eq_getElem?_getD, List.getElem?_eq_getElem hj]
  have := x_indexS (P := P) (a := a) (w := w) (dst := dst) (ty := ty) (pos := pos) (af := af) (gg := gg) ht hx hy hs
  have hg := hb.gi (j : Int)
  rw [show ((UInt8.ofNat (gi xs (j : Int)).toNat).toNat : Int) = gi xs (j : Int) by rw [UInt8.toNat_ofNat']; omega] at this
  exact this
end
/-! ### texts are compared as lists -/
section
variable {P : Program} {a : Act} {w : World} {dst : Option Tmp} {ty : TypeId} {pos : String} {af : Array Edge} {x y z : Operand} {t t' : TypeId} {gg : Option (Nat × Bool)}
theorem x_eqn0 {xs : List Int} (hx : a.eval x = .string (strOfNums xs)) (hy : a.eval y = .string (strOfNums [])) : At P ⟨dst, .binOp .eql t x y t', ty, pos, af, gg⟩ a w (.bool (decide (xs.length = 0))) := by
  rw [← sn_nil]; exact x_eqs hx hy
theorem x_nen0 {xs : List Int} (hx : a.eval x = .string (strOfNums xs)) (hy : a.eval y = .string (strOfNums [])) : At P ⟨dst, .binOp .neq t x y t', ty, pos, af, gg⟩ a w (.bool (!decide (xs.length = 0))) := by
  rw [← sn_nil]; exact x_nes hx hy
theorem x_eqn {xs ys : List Int} (hx : a.eval x = .string (strOfNums xs)) (hy : a.eval y = .string (strOfNums ys)) (hbx : Byte xs) (hby : Byte ys) : At P ⟨dst, .binOp .eql t x y t', ty, pos, af, gg⟩ a w (.bool (decide (xs = ys))) := by
  rw [← sn_eq hbx hby]; exact x_eqs hx hy
theorem x_nen {xs ys : List Int} (hx : a.eval x = .string (strOfNums xs)) (hy : a.eval y = .string (strOfNums ys)) (hbx : Byte xs) (hby : Byte ys) : At P ⟨dst, .binOp .neq t x y t', ty, pos, af, gg⟩ a w (.bool (!decide (xs = ys))) := by
  rw [← sn_eq hbx hby]; exact x_nes hx hy
end
/-! ### bytes of a text -/
theorem cells_sn {xs : List Int} (hb : Byte xs) : Lib.strCells (strOfNums xs) = xs.map (Value.int .u8) := by
  unfold Lib.strCells
  rw [strOfNums_data, List.map_map]
  refine List.map_congr_left fun n hn => ?_
  have := hb n hn
  simp only [Function.comp]
  congr 1
  rw [UInt8.toNat_ofNat']
  omega
section
variable {P : Program} {a : Act} {w w0 w' : World} {K : Act → World → Prop} {Q : Exit → Act → World → Prop} {v z : Value} {B : Nat → Prop} {H : List (Nat × Asn)} {ty : TypeId} {pos : String} {af : Array Edge} {x y : Operand} {t u e src : TypeId} {n d : Nat} {by' : Nat} {ag : Bool} {gg : Option (Nat × Bool)} {ds : List Deferred} {L : List (Nat × Value)} {xs ys : List Int} {ok : Nat → Prop} {T : TypeId}
theorem Row.appendS (ht : P.underlying t = some (.slice T)) (hu : P.underlying u = some .string) (hT : TyI P T (.int .u8 0) 1 1 ag) (ty : TypeId) (h : Row (.int .u8) T w ok v xs) (hb : Byte ys) (hl : xs.length + ys.length ≤ 140737488355328) :
    ∃ v' w', (Builtin.append_ #[t, u] ty #[v, .string (strOfNums ys)]).run P w = .ok v' w' ∧ Row (.int .u8) T w' ok v' (xs ++ ys) ∧ Mods (fun k => v.ownBlock = some k) w w' ∧ (v'.ownBlock = v.ownBlock ∨ v'.ownBlock = some w.heap.size) := by
  obtain ⟨cs, ho, he⟩ := h
  obtain ⟨i, hi, hiz, his, hib⟩ := hT.parts
  have hcs : cs = xs.map (Value.int .u8) := elems_flat.1 he
  have hs := strOfNums_size ys
  obtain ⟨v', w', hr, hown, hg, hiff⟩ := Lib.run_append_own_string (P := P) w 0 t u ty T i ht hu hi hiz his hib v xs.length cs ho (strOfNums ys) (by rw [hs]; unfold maxLen; omega) (by rw [hs]; omega) (Nat.zero_le _)
  rw [hs, cells_sn hb] at hown
  refine ⟨v', w', hr, ⟨cs ++ ys.map (Value.int .u8), by rw [List.length_append]; exact hown, elems_flat.2 (by rw [hcs, List.map_append])⟩, Mods.ofGrown hg, ?_⟩
  rcases ho.2 with ⟨rfl, h0⟩ | ⟨g, cap, cur, rfl, hbg, hg2, hnc, hcm, hcs2, htake⟩
  · by_cases hm : (strOfNums ys).size = 0
    · exact .inl (by rw [hiff.2 ⟨rfl, hm⟩])
    · have hr2 := run_append_nil_string (P := P) w t u ty T i (.int .u8 0) ht hu hi hiz (strOfNums ys) (by omega) (by omega) (by rw [hib]; omega)
      rw [hr2] at hr
      injection hr with h1 h2
      exact .inr (by rw [← h1]; rfl)
  · by_cases hroom : xs.length + (strOfNums ys).size ≤ cap
    · have hcs' : cur.size = cap := by have := hcs2; simp [Rep.int, Rep.flat] at this; exact this
      have hr2 := Lib.run_append_room_string (P := P) w t u ty T i ht hu hi his g xs.length cap cur hg2 (strOfNums ys) hroom (by omega)
      rw [hr2] at hr
      injection hr with h1 h2
      exact .inl (by rw [← h1]; rfl)
    · have hlen : cs.length = xs.length := by rw [hcs, List.length_map]
      have holds : ∀ j u, cs[j]? = some u → w.cell? ((⟨g, 0, none⟩ : Addr).add j) = some u := ho.cells (g := g) rfl
      have hr2 := Lib.run_append_grow_string (P := P) w t u ty T i (.int .u8 0) ht hu hi hiz ⟨g, 0, none⟩ xs.length cap cs (by rw [his]; omega) holds (strOfNums ys) (by omega) (by omega) (by rw [hib]; exact growslice_fits (by omega) (by omega))
      rw [hr2] at hr
      injection hr with h1 h2
      exact .inr (by rw [← h1]; rfl)
/-- append(b, s...) -/
theorem w_appendS (l : Nat) {ys : List Int} (hF : FrD ds n a L) (hH : Hp B w0 w H) (hn : Nat.blt d n = true) (ht : P.underlying t = some (.slice e)) (hu : P.underlying u = some .string) (hT : TyI P e (.int .u8 0) 1 1 ag)
    (hl : get H l = some (.row (.int .u8) e v xs ok)) (hx : a.eval x = v) (hy : a.eval y = .string (strOfNums ys)) (hb : Byte ys) (hle : xs.length + ys.length ≤ 140737488355328)
    (k' : ∀ a' w' v', FrD ds n a' ((d, v') :: L) → Hp B w0 w' ((l, .row (.int .u8) e v' (xs ++ ys) ok) :: H) → K a' w') :
    Oper.wp P ⟨some d, .call ⟨.builtin .append, #[x, y], #[t, u]⟩, ty, pos, af, gg⟩ a w K Q := by
  obtain ⟨v', w', hrun, hrow, hmod, hat⟩ := Row.appendS ht hu hT ty (hH.row l hl) hb hle
  have hto : To P ⟨some d, .call ⟨.builtin .append, #[x, y], #[t, u]⟩, ty, pos, af, gg⟩ a w v' w' := by
    unfold To
    generalize a.eval = ρ at *
    simp only [execOp, resolve, invoke, builtin, Sem.run_bind, Sem.run_pure, Result.andThen_ok, List.map_toArray, List.map_cons, List.map_nil, hx, hy, hrun]
  refine w_to hF hto rfl hn fun a' hF' => k' a' w' v' hF' ?_
  refine hH.one hmod l _ (fun k hk => ⟨_, hl, hk⟩) hrow (fun k hk => ?_) (fun k hk => .inr (.inl ⟨l, _, hl, hk⟩)) (fun k hk => ?_) (fun k hk hk2 => ?_)
  · rcases hat with h | h
    · exact .inl ⟨_, hl, by simp only [Asn.row] at hk ⊢; rw [← h]; exact hk⟩
    · simp only [Asn.row] at hk; rw [h] at hk; cases hk; exact .inr (Nat.le_refl _)
  · rcases hk with hk | hk
    · exact hrow.lt k hk
    · exact Nat.lt_of_lt_of_le (hH.inb l _ hl k (.inr hk)) hmod.size
  · rcases hat with h | h
    · exact hH.self l _ hl k (by simp only [Asn.row] at hk ⊢; rw [← h]; exact hk) hk2
    · simp only [Asn.row] at hk; rw [h] at hk; cases hk
      exact Nat.lt_irrefl _ (hH.inb l _ hl _ (.inr hk2))
theorem Mods.bytesWorld (w : World) (e : TypeId) (s : ByteArray) : Mods (fun _ => False) w (Lib.bytesWorld w e s) :=
  ⟨rfl, rfl, rfl, by rw [Lib.bytesWorld_size]; omega, fun k hk _ => Lib.bytesWorld_at_old w e s k hk⟩
/-- []byte(s): only read. -/
theorem w_s2b (l : Nat) (hF : FrD ds n a L) (hH : Hp B w0 w H) (hn : Nat.blt d n = true) {ud : TypeDesc} (hs : P.underlying src = some ud) (ht : P.underlying t = some (.slice e)) (he : P.underlying e = some (.int .u8)) (hx : a.eval x = .string (strOfNums xs)) (hb : Byte xs) (hlen : xs.length ≤ 140737488355328)
    (k' : ∀ a' w' b c, w.heap.size ≤ b → FrD ds n a' ((d, .slice (some ⟨b, 0, Option.none⟩) xs.length c) :: L) → Hp B w0 w' ((l, .rd_ (.int .u8) (some ⟨b, 0, Option.none⟩) xs c (fun k => k = b)) :: H) → K a' w') :
    Oper.wp P ⟨some d, .convert src t x, ty, pos, af, gg⟩ a w K Q := by
  have hsz := strOfNums_size xs
  have hr := Lib.run_convert_string_bytes (P := P) w src t e (strOfNums xs) hs ht he
  rw [hsz] at hr
  have hto : To P ⟨some d, .convert src t x, ty, pos, af, gg⟩ a w (.slice (some ⟨w.heap.size, 0, Option.none⟩) xs.length (grownCap w xs.length 0 e)) (Lib.bytesWorld w e (strOfNums xs)) := by
    unfold To; generalize a.eval = ρ at *
    simp only [execOp, hx, Sem.run_bind, hr, Result.andThen_ok, Sem.run_pure]
  have hm := Mods.bytesWorld w e (strOfNums xs)
  have hrd : Rd (.int .u8) (Lib.bytesWorld w e (strOfNums xs)) (fun k => k = w.heap.size) (some ⟨w.heap.size, 0, Option.none⟩) xs (grownCap w xs.length 0 e) := by
    refine ⟨grownCap_ge w xs.length 0 e, grownCap_le_maxLen w xs.length 0 e (by unfold maxLen; omega), fun h0 => ⟨w.heap.size, 0, Lib.bytesCells w e (strOfNums xs), e, _, rfl, rfl, Lib.bytesWorld_at_new w e (strOfNums xs), xs.map (Value.int .u8), fun j u hj => ?_, elems_flat.2 rfl⟩⟩
    rw [← cells_sn hb] at hj
    unfold Lib.strCells at hj
    have hj2 : j < (strOfNums xs).data.size := by have := (List.getElem?_eq_some_iff.1 hj).1; simpa using this
    unfold Lib.bytesCells
    rw [Nat.zero_add, Array.getElem?_append_left (by simpa using hj2)]
    rw [← Array.getElem?_toList, Array.toList_map]
    exact hj
  refine w_to hF hto rfl hn fun a' hF' => k' a' _ w.heap.size _ (Nat.le_refl _) hF' ?_
  refine (hH.same hm).readable l hrd (fun k hk => by rw [hk, Lib.bytesWorld_size]; omega) (fun i A' hA k hk hk2 => ?_)
  rw [hk2] at hk
  exact absurd (hH.inb i A' hA _ (.inl hk)) (Nat.lt_irrefl _)
end
end Go.Proofs.Ytlcnoibjhmflnaa.Sx
