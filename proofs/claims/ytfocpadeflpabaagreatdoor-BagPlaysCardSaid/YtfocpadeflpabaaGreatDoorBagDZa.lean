/- The bag: what lies in memory, and what its operations do. -/
import Derived.Test.YtfocpadeflpabaaGreatDoorMdcDZa
import Derived.Test.YtfocpadeflpabaaGreatDoorBunZa
import Derived.Test.YtfocpadeflpabaaGreatDoorMapZa
import Derived.Test.YtfocpadeflpabaaGreatDoorDelZa
set_option linter.unusedVariables false
set_option linter.unusedSimpArgs false
namespace Go.Proofs.YtfocpadeflpabaaGreatDoor.Sx
open Go.RowKit
section
variable {B : Nat → Prop} {w0 w : World} {H : List (Nat × Asn)} {X X' : Asn}
/-- A label's thing, as what the function's own has turned to. -/
theorem grew_lab (h : Hp X.own w0 w H) (l : Nat) (hl : get H l = some X') {rdY : Nat → Prop} (hrd : ∀ k, X'.rd k → X.own k ∨ X.rd k ∨ rdY k ∨ w0.heap.size ≤ k) : Grew (fun _ => False) rdY X w0 w X' :=
  ⟨h.mods.mono (fun k hk _ => .inl hk), ⟨h.holds l X' hl, h.inb l X' hl, h.self l X' hl⟩, fun k hk => h.mine l X' hl k hk, hrd⟩
theorem Hp.okX (h : Hp B w0 w H) (l : Nat) (hl : get H l = some X) : X.ok w := ⟨h.holds l X hl, h.inb l X hl, h.self l X hl⟩
theorem Hp.own1 (ho : X.ok w0) (l : Nat) : Hp X.own w0 w0 [(l, X)] :=
  (Hp.nil X.own w0).takes (bs := fun _ => False) l (fun j A h => by simp [get] at h) (fun j A h => by simp [get] at h) (fun k hk => hk) ho
theorem Hp.ownrow {α : Type} {E : Rep α} {T : TypeId} {v : Value} {xs : List α} {ok : Nat → Prop} (l : Nat) (hr : Row E T w0 ok v xs) (hi : ∀ k, ok k → k < w0.heap.size) (hs : ∀ k, v.ownBlock = some k → ¬ ok k) : Hp (fun k => v.ownBlock = some k) w0 w0 [(l, .row E T v xs ok)] :=
  Hp.own1 (X := .row E T v xs ok) ⟨hr, fun k hk => hk.elim (fun h => hr.lt k h) (hi k), hs⟩ l
/-- An element of a row: what is read for it is apart from the row's own block. -/
theorem Row.at_ {α : Type} {E : Rep α} {T : TypeId} {A : Option Addr} {c : Nat} {xs : List α} {ok : Nat → Prop} (h : Row E T w ok (.slice A xs.length c) xs) {i : Nat} {x : α} (hx : xs[i]? = some x) :
    ∃ g cs, A = some ⟨g, 0, none⟩ ∧ E.R w ok x cs ∧ ∀ j u, cs[j]? = some u → w.cell? ⟨g, i * E.n + j, none⟩ = some u := by
  obtain ⟨cs, ho, he⟩ := h
  have hi : i < xs.length := (List.getElem?_eq_some_iff.1 hx).1
  rcases ho.2 with ⟨_, h0⟩ | ⟨g, cap, cur, h3, _, hh, _, _, _, htk⟩
  · omega
  · injection h3 with h31 h32 h33
    subst h31 h33
    refine ⟨g, _, rfl, he.2 i x hx, fun j u hj => ?_⟩
    rw [cell_of_row w g _ cur T (0, 0) hh]
    rw [List.getElem?_take] at hj
    split at hj
    · rw [List.getElem?_drop, ← htk, List.getElem?_take] at hj
      split at hj
      · simpa using hj
      · cases hj
    · cases hj
theorem Hp.rowSame {α : Type} {E : Rep α} {T : TypeId} {v v' : Value} {xs ys : List α} {ok : Nat → Prop} {w' : World} (h : Hp B w0 w H) (l : Nat) (hl : get H l = some (.row E T v xs ok)) (hm : Mods (fun k => v.ownBlock = some k) w w') (hr : Row E T w' ok v' ys) (hv : v'.ownBlock = v.ownBlock) : Hp B w0 w' ((l, .row E T v' ys ok) :: H) := by
  refine h.one hm l _ (fun k hk => ⟨_, hl, hk⟩) hr (fun k hk => .inl ⟨_, hl, hv.symm.trans hk⟩) (fun k hk => .inr (.inl ⟨l, _, hl, hk⟩)) (fun k hk => ?_) (fun k hk hk2 => h.self l _ hl k (hv.symm.trans hk) hk2)
  rcases hk with hk | hk
  · exact hr.lt k hk
  · exact Nat.lt_of_lt_of_le (h.inb l _ hl k (.inr hk)) hm.size
theorem grew_sub {L' : List (Nat × Asn)} (h : Hp X.own w0 w H) (hs : ∀ i A, get L' i = some A → get H i = some A) {rdY : Nat → Prop} (hrd : ∀ k, RdL L' k → X.own k ∨ X.rd k ∨ rdY k ∨ w0.heap.size ≤ k) : Grew (fun _ => False) rdY X w0 w (Asn.all L') :=
  ⟨h.mods.mono (fun k hk _ => .inl hk), (h.sub L' hs).okAll, fun k ⟨i, A, hA, hk⟩ => h.mine i A (hs i A hA) k hk, hrd⟩
theorem own_old {l : Nat} (h : Hp B w0 w H) {X' : Asn} : ∀ i Y, get ((l, X') :: H) i = some Y → i ≠ l → ∀ k, Y.own k → k < w.heap.size := fun i Y hY hne k hk => by
  rw [get_cons, if_neg (fun e => hne e.symm)] at hY; exact h.inb i Y hY k (.inl hk)
theorem own_old2 {α : Type} {E : Rep α} {A : Option Addr} {xs : List α} {c : Nat} {ok : Nat → Prop} {l l2 : Nat} (h : Hp B w0 w H) {X' : Asn} : ∀ i Y, get ((l2, .rd_ E A xs c ok) :: (l, X') :: H) i = some Y → i ≠ l → ∀ k, Y.own k → k < w.heap.size := fun i Y hY hne k hk => by
  rw [get_cons] at hY
  split at hY
  · cases hY; exact hk.elim
  · exact own_old h i Y hY hne k hk
/-- A thing has turned, and something that is only read has come. -/
theorem Hp.readNew {α : Type} {E : Rep α} {A : Option Addr} {xs : List α} {c : Nat} {ok : Nat → Prop} {w' : World} (h' : Hp B w0 w' H) (l l2 : Nat) (ho : ∀ i Y, get H i = some Y → i ≠ l → ∀ k, Y.own k → k < w.heap.size) (hl : ∀ Y, get H l = some Y → ∀ k, Y.own k → ¬ ok k) (hr : Rd E w' ok A xs c) (hf : ∀ k, ok k → w.heap.size ≤ k ∧ k < w'.heap.size) : Hp B w0 w' ((l2, .rd_ E A xs c ok) :: H) :=
  h'.readable l2 hr (fun k hk => (hf k hk).2) (fun i Y hY k hk hk2 => by
    by_cases e : i = l
    · subst e; exact hl Y hY k hk hk2
    · have := ho i Y hY e k hk; have := (hf k hk2).1; omega)
end
section
variable {P : Program} {fn : Func} {a : Act} {w : World} {n : Nat} {L : List (Nat × Value)} {v u u2 : Value} {ds : List Deferred}
theorem resct3 (hF : FrD ds n a L) {t t' t2 : Nat} {ty : TypeId} {b : Nat} {cs : Array Value} {T : TypeId} {fz : Nat × Nat} {z : Value} {k by' : Nat} (hr : fn.results = #[.cell t ty, .tmp t', .tmp t2]) (hv : get L t = some (.pointer (some ⟨b, 0, none⟩))) (hu : get L t' = some u) (hu2 : get L t2 = some u2) (hb : w.heap[b]? = some (.cells cs T fz))
    (h : TyI P ty z k by' true) (hn : cs.size = k) : (results fn a.tmps).run P w = .ok (.tuple #[.agg cs, u, u2]) w := by
  have h3 : a.tmps[t]?.getD undef = .pointer (some ⟨b, 0, none⟩) := by simpa using hF.getD t hv
  have h4 : a.tmps[t']?.getD undef = u := by simpa using hF.getD t' hu
  have h5 : a.tmps[t2]?.getD undef = u2 := by simpa using hF.getD t2 hu2
  obtain ⟨d, hd, he⟩ := h.und
  obtain ⟨i, hi, _, hz, _⟩ := h.parts
  have hl := run_loadVar_row (P := P) w b T ty cs fz d hb hd (by cases d <;> simp_all) (by rw [hi]; simp [hz, hn])
  simp [results, hr, h3, h4, h5, asAddr, hl]
end
end Go.Proofs.YtfocpadeflpabaaGreatDoor.Sx
namespace Go.Proofs.YtfocpadeflpabaaGreatDoor.Act
open Go.RowKit Go.Proofs.YtfocpadeflpabaaGreatDoor.Sx Go.Proofs.YtfocpadeflpabaaGreatDoor.Cod Go.Proofs.YtfocpadeflpabaaGreatDoor.Num
structure WayD where
  b : List Int
  epoch : Int
deriving DecidableEq
def WayD.tup (x : WayD) : (List Int) × Int := (x.b, x.epoch)
def WayE : Rep WayD := Rep.iso (Rep.pair (Rep.slice (Rep.int .u8)) (Rep.int .i64)) WayD.tup
def gway (xs : List WayD) (i : Int) : WayD := xs.getD i.toNat ⟨[], 0⟩
theorem gway_some {xs : List WayD} {i : Int} (h0 : 0 ≤ i) (h1 : i < xs.length) : xs[i.toNat]? = some (gway xs i) := by
  have hi : i.toNat < xs.length := by omega
  simp [gway, List.getD_eq_getElem?_getD, List.getElem?_eq_getElem hi]
theorem way_cells {w : World} {ok : Nat → Prop} {x : WayD} {cs : List Value} (h : WayE.R w ok x cs) : ∃ A0 c0, cs = [.slice A0 x.b.length c0, .int .i64 x.epoch] ∧ Rd (Rep.int .u8) w ok A0 x.b c0 := by
  obtain ⟨cc0, dd0, rfl, ⟨A0, c0, hc0, hr0⟩, hc1⟩ := h
  subst hc0
  have he1 : dd0 = [.int .i64 x.epoch] := hc1
  subst he1
  exact ⟨A0, c0, rfl, hr0⟩
theorem way_mk {w : World} {ok : Nat → Prop} (x : WayD) {A0 : Option Addr} {c0 : Nat} (hr0 : Rd (Rep.int .u8) w ok A0 x.b c0) : WayE.R w ok x [.slice A0 x.b.length c0, .int .i64 x.epoch] :=
  ⟨[.slice A0 x.b.length c0], _, rfl, ⟨A0, c0, rfl, hr0⟩, rfl⟩
theorem rd_way {w : World} {ok : Nat → Prop} {A : Option Addr} {xs : List WayD} {c : Nat} (hr : Rd WayE w ok A xs c) {i : Nat} {f : WayD} (hx : xs[i]? = some f) : ∃ A0 c0, Rd (Rep.int .u8) w ok A0 f.b c0 ∧ w.cell? (adr A (i * 2)) = some (.slice A0 f.b.length c0) ∧ w.cell? (adr A (i * 2 + 1)) = some (.int .i64 f.epoch) ∧
    (∀ j u, (#[.slice A0 f.b.length c0, .int .i64 f.epoch] : Array Value).toList[j]? = some u → w.cell? ((adr A (i * 2)).add j) = some u) := by
  obtain ⟨cs, hR, hc⟩ := hr.cellsA (n := 2) rfl hx
  obtain ⟨A0, c0, rfl, hr0⟩ := way_cells hR
  obtain ⟨b, off, rfl⟩ := hr.some_ (by have := (List.getElem?_eq_some_iff.1 hx).1; omega)
  have e : ∀ q, adr (some (⟨b, off, Option.none⟩ : Addr)) q = ⟨b, off + q, Option.none⟩ := fun q => by simp only [adr, Option.getD_some]; exact add_off _ _ _
  have g : ∀ j u, [(.slice A0 f.b.length c0 : Value), .int .i64 f.epoch][j]? = some u → w.cell? (adr (some (⟨b, off, Option.none⟩ : Addr)) (i * 2 + j)) = some u := fun j u hj => by
    have := hc j u hj
    rw [e, add_off] at this
    rw [e, ← Nat.add_assoc]; exact this
  exact ⟨A0, c0, hr0, g 0 _ rfl, g 1 _ rfl, fun j u hj => hc j u hj⟩
def msg0 : MessageD := ⟨0, 0, 0, 0, [], []⟩
theorem msg0_B : MessageB msg0 := ⟨by decide, by decide, by decide, by decide, (fun n hn => by cases hn), (fun n hn => by cases hn)⟩
structure BagS where
  ways : List (MessageD × Int)
  eps : List Int
  lost : Int
def bag0 : BagS := ⟨[], [0, 0, 0, 0, 0, 0, 0, 0], 0⟩
def wy (l : List (MessageD × Int)) : List WayD := l.map fun p => ⟨encM p.1, p.2⟩
theorem wy_len (l : List (MessageD × Int)) : (wy l).length = l.length := List.length_map _
/-- A bag lies at bb. -/
def BagA (T TW : TypeId) (bb : Nat) (s : BagS) (X : Asn) : Prop :=
  ∃ (Aw : Option Addr) (cw : Nat) (okw : Nat → Prop), X = Asn.all [(1, .blk bb (.cells #[.slice Aw (wy s.ways).length cw, .int .i64 (gi s.eps 0), .int .i64 (gi s.eps 1), .int .i64 (gi s.eps 2), .int .i64 (gi s.eps 3), .int .i64 (gi s.eps 4), .int .i64 (gi s.eps 5), .int .i64 (gi s.eps 6), .int .i64 (gi s.eps 7), .int .i64 s.lost] T (0, 0))), (2, .row WayE TW (.slice Aw (wy s.ways).length cw) (wy s.ways) okw)]
def idW (s : BagS) (i : Int) : MessageD × Int := s.ways.getD i.toNat (msg0, 0)
def isW (s : BagS) (i : Int) : Bool := decide (0 ≤ i) && decide (i < (s.ways.length : Int))
def w64I (n : Int) : Int := IntKind.i64.wrap n
def putS (s : BagS) (p : MessageD × Int) : BagS := if 500 ≤ s.ways.length then { s with lost := w64I (s.lost + 1) } else { s with ways := s.ways ++ [p] }
def putE (s : BagS) : Int := if 500 ≤ s.ways.length then 171 else 0
def sendS (s : BagS) (m : MessageD) : BagS := if rightM m then putS s (m, gi s.eps m.dst) else s
def sendE (s : BagS) (m : MessageD) : Int := if rightM m then putE s else 161
def lookM (s : BagS) (i : Int) : MessageD := if isW s i then (idW s i).1 else msg0
def lookE (s : BagS) (i : Int) : Int := if isW s i then 0 else 1
def takeS (s : BagS) (i : Int) : BagS := if isW s i then { s with ways := s.ways.take i.toNat ++ s.ways.drop (i.toNat + 1) } else s
def freshS (s : BagS) (i : Int) : Bool := isW s i && decide ((idW s i).2 = gi s.eps (idW s i).1.dst)
def twiceS (s : BagS) (i : Int) : BagS := if isW s i then putS s (idW s i) else s
def twiceE (s : BagS) (i : Int) : Int := if isW s i then putE s else 1
def loseS (s : BagS) (i : Int) : BagS := if isW s i then { takeS s i with lost := w64I ((takeS s i).lost + 1) } else s
def in8 (n : Int) : Bool := decide (0 ≤ n) && decide (n < 8)
def rstS (s : BagS) (n : Int) : BagS := if in8 n then { s with eps := s.eps.set n.toNat (w64I (gi s.eps n + 1)) } else s
def rstE (n : Int) : Int := if in8 n then 0 else 1
def epoS (s : BagS) (n : Int) : Int := if in8 n then gi s.eps n else 0
/-- What a bag keeps to. -/
structure BagOk (s : BagS) : Prop where
  eps : s.eps.length = 8
  few : s.ways.length ≤ 500
  all : ∀ p ∈ s.ways, rightM p.1 = true ∧ MessageB p.1
theorem bag0_ok : BagOk bag0 := ⟨rfl, by decide, fun p hp => by cases hp⟩
theorem idW_mem {s : BagS} {i : Int} (h : isW s i = true) : idW s i ∈ s.ways ∧ s.ways[i.toNat]? = some (idW s i) := by
  unfold isW at h
  simp only [Bool.and_eq_true, decide_eq_true_eq] at h
  have hi : i.toNat < s.ways.length := by omega
  have e : s.ways[i.toNat]? = some (idW s i) := by unfold idW; simp [List.getD_eq_getElem?_getD, List.getElem?_eq_getElem hi]
  exact ⟨List.mem_of_getElem? e, e⟩
theorem isW_yes {s : BagS} {i : Int} (h0 : 0 ≤ i) (h1 : i < (s.ways.length : Int)) : isW s i = true := by unfold isW; rw [decide_eq_true h0, decide_eq_true h1]; rfl
theorem isW_neg {s : BagS} {i : Int} (h : i < 0) : isW s i = false := by unfold isW; rw [decide_eq_false (by omega)]; rfl
theorem isW_big {s : BagS} {i : Int} (h : (s.ways.length : Int) ≤ i) : isW s i = false := by unfold isW; rw [decide_eq_false (p := i < _) (by omega)]; simp
theorem isW_parts {s : BagS} {i : Int} (h : isW s i = true) : 0 ≤ i ∧ i < (s.ways.length : Int) := by unfold isW at h; simpa using h
theorem gway_wy {s : BagS} {i : Int} (h : isW s i = true) : gway (wy s.ways) i = ⟨encM (idW s i).1, (idW s i).2⟩ := by
  have h1 := (idW_mem h).2
  unfold gway wy
  rw [List.getD_eq_getElem?_getD, List.getElem?_map, h1]
  rfl
theorem wy_del (l : List (MessageD × Int)) (i j : Nat) : (wy l).take i ++ (wy l).drop j = wy (l.take i ++ l.drop j) := by
  unfold wy; rw [List.map_append, List.map_take, List.map_drop]
theorem wy_put (l : List (MessageD × Int)) (p : MessageD × Int) : wy l ++ [⟨encM p.1, p.2⟩] = wy (l ++ [p]) := by unfold wy; rw [List.map_append]; rfl
theorem put_ok {s : BagS} (h : BagOk s) {p : MessageD × Int} (hr : rightM p.1 = true) (hb : MessageB p.1) : BagOk (putS s p) := by
  unfold putS
  split
  · exact ⟨h.eps, h.few, h.all⟩
  · refine ⟨h.eps, by simp; omega, fun q hq => ?_⟩
    rcases List.mem_append.1 hq with hq | hq
    · exact h.all q hq
    · rw [List.mem_singleton.1 hq]; exact ⟨hr, hb⟩
theorem send_ok {s : BagS} (h : BagOk s) {m : MessageD} (hb : MessageB m) : BagOk (sendS s m) := by
  unfold sendS
  split
  · rename_i hr; exact put_ok h hr hb
  · exact h
theorem take_ok {s : BagS} (h : BagOk s) (i : Int) : BagOk (takeS s i) := by
  unfold takeS
  split
  · refine ⟨h.eps, ?_, fun q hq => ?_⟩
    · have := h.few; simp only [List.length_append, List.length_take, List.length_drop]; omega
    · rcases List.mem_append.1 hq with hq | hq
      · exact h.all q (List.mem_of_mem_take hq)
      · exact h.all q (List.mem_of_mem_drop hq)
  · exact h
theorem twice_ok {s : BagS} (h : BagOk s) (i : Int) : BagOk (twiceS s i) := by
  unfold twiceS
  split
  · rename_i hi; obtain ⟨h1, h2⟩ := h.all _ (idW_mem hi).1; exact put_ok h h1 h2
  · exact h
theorem lose_ok {s : BagS} (h : BagOk s) (i : Int) : BagOk (loseS s i) := by
  unfold loseS
  split
  · have := take_ok h i; exact ⟨this.eps, this.few, this.all⟩
  · exact h
theorem rest_ok {s : BagS} (h : BagOk s) (n : Int) : BagOk (rstS s n) := by
  unfold rstS
  split
  · exact ⟨by simp [h.eps], h.few, h.all⟩
  · exact h
theorem look_B {s : BagS} (h : BagOk s) (i : Int) : MessageB (lookM s i) := by
  unfold lookM
  split
  · rename_i hi; exact (h.all _ (idW_mem hi).1).2
  · exact msg0_B
theorem eps_at {a0 e : Value} {l : List Int} {i : Int} (h0 : 0 ≤ i) (h1 : i < 8) : (#[a0, .int .i64 (gi l 0), .int .i64 (gi l 1), .int .i64 (gi l 2), .int .i64 (gi l 3), .int .i64 (gi l 4), .int .i64 (gi l 5), .int .i64 (gi l 6), .int .i64 (gi l 7), e] : Array Value)[1 + i.toNat * 1]? = some (.int .i64 (gi l i)) := by
  obtain ⟨n, rfl⟩ : ∃ n : Nat, i = (n : Int) := ⟨i.toNat, by omega⟩
  rw [Int.toNat_natCast, Nat.mul_one]
  rcases n with _ | _ | _ | _ | _ | _ | _ | _ | n
  all_goals first | rfl | omega
theorem gi_set {l : List Int} (hl : l.length = 8) {n j : Int} {v : Int} (h0 : 0 ≤ n) (h1 : n < 8) (j0 : 0 ≤ j) : gi (l.set n.toNat v) j = if j = n then v else gi l j := by
  unfold gi
  rw [List.getD_eq_getElem?_getD, List.getD_eq_getElem?_getD, List.getElem?_set]
  by_cases e : j = n
  · subst e; rw [if_pos rfl, if_pos (by omega), if_pos rfl]; rfl
  · rw [if_neg (by omega), if_neg e]
theorem eps_set {a0 e : Value} {l : List Int} (hl : l.length = 8) {i v : Int} (h0 : 0 ≤ i) (h1 : i < 8) : spl #[a0, .int .i64 (gi l 0), .int .i64 (gi l 1), .int .i64 (gi l 2), .int .i64 (gi l 3), .int .i64 (gi l 4), .int .i64 (gi l 5), .int .i64 (gi l 6), .int .i64 (gi l 7), e] (1 + i.toNat * 1) (Value.int .i64 v).cells =
    #[a0, .int .i64 (gi (l.set i.toNat v) 0), .int .i64 (gi (l.set i.toNat v) 1), .int .i64 (gi (l.set i.toNat v) 2), .int .i64 (gi (l.set i.toNat v) 3), .int .i64 (gi (l.set i.toNat v) 4), .int .i64 (gi (l.set i.toNat v) 5), .int .i64 (gi (l.set i.toNat v) 6), .int .i64 (gi (l.set i.toNat v) 7), e] := by
  rw [gi_set hl h0 h1 (by decide), gi_set hl h0 h1 (by decide), gi_set hl h0 h1 (by decide), gi_set hl h0 h1 (by decide), gi_set hl h0 h1 (by decide), gi_set hl h0 h1 (by decide), gi_set hl h0 h1 (by decide), gi_set hl h0 h1 (by decide)]
  obtain ⟨n, rfl⟩ : ∃ n : Nat, i = (n : Int) := ⟨i.toNat, by omega⟩
  rw [Int.toNat_natCast, Nat.mul_one]
  rcases n with _ | _ | _ | _ | _ | _ | _ | _ | n
  all_goals first | rfl | omega
theorem put_full {s : BagS} {p : MessageD × Int} (h : (500 : Int) ≤ (s.ways.length : Int)) : putE s = 171 ∧ putS s p = { s with lost := w64I (s.lost + 1) } := by
  unfold putE putS; rw [if_pos (by omega), if_pos (by omega)]; exact ⟨rfl, rfl⟩
theorem put_room {s : BagS} {p : MessageD × Int} (h : ¬ (500 : Int) ≤ (s.ways.length : Int)) : putE s = 0 ∧ putS s p = { s with ways := s.ways ++ [p] } := by
  unfold putE putS; rw [if_neg (by omega), if_neg (by omega)]; exact ⟨rfl, rfl⟩
theorem in8_yes {n : Int} (h0 : ¬ n < 0) (h1 : ¬ 8 ≤ n) : in8 n = true := by unfold in8; rw [decide_eq_true (by omega), decide_eq_true (by omega)]; rfl
theorem in8_neg {n : Int} (h : n < 0) : in8 n = false := by unfold in8; rw [decide_eq_false (by omega)]; rfl
theorem in8_big {n : Int} (h : 8 ≤ n) : in8 n = false := by unfold in8; rw [decide_eq_false (p := n < 8) (by omega)]; simp
theorem look_no {s : BagS} {i : Int} (h : isW s i = false) : lookM s i = msg0 ∧ lookE s i = 1 ∧ takeS s i = s ∧ freshS s i = false ∧ twiceS s i = s ∧ twiceE s i = 1 ∧ loseS s i = s := by
  unfold lookM lookE takeS freshS twiceS twiceE loseS; simp [h]
theorem look_yes {s : BagS} {i : Int} (h : isW s i = true) : lookM s i = (idW s i).1 ∧ lookE s i = 0 ∧ takeS s i = { s with ways := s.ways.take i.toNat ++ s.ways.drop (i.toNat + 1) } ∧ freshS s i = decide ((idW s i).2 = gi s.eps (idW s i).1.dst) ∧ twiceS s i = putS s (idW s i) ∧ twiceE s i = putE s ∧ loseS s i = { takeS s i with lost := w64I ((takeS s i).lost + 1) } := by
  unfold lookM lookE freshS twiceS twiceE loseS; simp [h, takeS]
theorem look_zero {s : BagS} {i : Int} (h : lookE s i = 0) : isW s i = true := by
  unfold lookE at h; split at h
  · assumption
  · cases h
theorem look_nz {s : BagS} {i : Int} (h : ¬ lookE s i = 0) : isW s i = false := by
  cases h' : isW s i with
  | false => rfl
  | true => exact absurd (look_yes h').2.1 h
theorem send_yes {s : BagS} {m : MessageD} (h : rightM m = true) : sendE s m = putE s ∧ sendS s m = putS s (m, gi s.eps m.dst) := by unfold sendE sendS; rw [h]; exact ⟨rfl, rfl⟩
theorem send_no {s : BagS} {m : MessageD} (h : rightM m = false) : sendE s m = 161 ∧ sendS s m = s := by unfold sendE sendS; rw [h]; exact ⟨rfl, rfl⟩
theorem rest_yes {s : BagS} {n : Int} (h : in8 n = true) : rstE n = 0 ∧ rstS s n = { s with eps := s.eps.set n.toNat (w64I (gi s.eps n + 1)) } ∧ epoS s n = gi s.eps n := by unfold rstE rstS epoS; rw [h]; exact ⟨rfl, rfl, rfl⟩
theorem rest_no {s : BagS} {n : Int} (h : in8 n = false) : rstE n = 1 ∧ rstS s n = s ∧ epoS s n = 0 := by unfold rstE rstS epoS; rw [h]; exact ⟨rfl, rfl, rfl⟩
theorem two_ro {X Y : Asn} {w : World} (h : (Asn.all [(1, X), (2, Y)]).holds w) : Hp (fun _ => False) w w [(1, .ro X), (2, .ro Y)] := by
  have h1 := ((Hp.ofAll h).roAny 1 rfl).roAny 2 rfl
  have h2 := h1.sub [(1, .ro X), (2, .ro Y)] (sub_cons (sub_cons (sub_nil _) 2 rfl) 1 rfl)
  have hno : ∀ k, OwnL [(1, .ro X), (2, .ro Y)] k → False := own_cons (fun k h => h.elim) (own_cons (fun k h => h.elim) own_nil)
  exact ⟨Mods.refl _ _, h2.holds, fun i A hA k hk => (hno k ⟨i, A, hA, hk⟩).elim, h2.inb, h2.self, h2.sep⟩
theorem row_ro {α : Type} {E : Rep α} {T : TypeId} {A : Option Addr} {c : Nat} {xs : List α} {ok : Nat → Prop} {w : World} (h : (Asn.ro (.row E T (.slice A xs.length c) xs ok)).holds w) : Rd E w (fun k => (Asn.row E T (.slice A xs.length c) xs ok).own k ∨ (Asn.row E T (.slice A xs.length c) xs ok).rd k) A xs c :=
  Row.rd (h : Row E T w ok (.slice A xs.length c) xs) (fun k h _ => .inr h) (fun k h => .inl h)
theorem wy_at {s : BagS} {i : Int} (h : isW s i = true) : (wy s.ways)[i.toNat]? = some ⟨encM (idW s i).1, (idW s i).2⟩ := by
  unfold wy; rw [List.getElem?_map, (idW_mem h).2]; rfl
section
variable {T TW : TypeId} {bb : Nat} {s : BagS} {X : Asn} {w : World}
theorem BagA.row (hX : BagA T TW bb s X) : ∃ (Aw : Option Addr) (cw : Nat), ∀ w, X.holds w → w.cell? ⟨bb, 0, none⟩ = some (.slice Aw (wy s.ways).length cw) ∧ Rd WayE w (fun k => X.own k ∨ X.rd k) Aw (wy s.ways) cw ∧
    (∀ n : Int, 0 ≤ n → n < 8 → w.cell? ⟨bb, 1 + n.toNat * 1, none⟩ = some (.int .i64 (gi s.eps n))) ∧
    ∀ i, isW s i = true → ∃ (fA : Option Addr) (fc : Nat) (okb : Nat → Prop), Rd (.int .u8) w okb fA (encM (idW s i).1) fc ∧ (∀ k, okb k → X.rd k) ∧ (∀ j u, (#[.slice fA (encM (idW s i).1).length fc, .int .i64 (idW s i).2] : Array Value).toList[j]? = some u → w.cell? ((adr Aw (i.toNat * 2)).add j) = some u) ∧ w.cell? (adr Aw (i.toNat * 2 + 1)) = some (.int .i64 (idW s i).2) := by
  obtain ⟨Aw, cw, okw, rfl⟩ := hX
  refine ⟨Aw, cw, fun w h => ⟨?_, ?_, fun n h0 h1 => ?_, fun i hi => ?_⟩⟩
  · exact blk_cell (h.holds 1 _ rfl) 0 rfl
  · exact Row.rd (h.holds 2 _ rfl) (fun k hk _ => .inr ⟨2, _, rfl, hk⟩) (fun k hk => .inl ⟨2, _, rfl, hk⟩)
  · exact blk_cell (h.holds 1 _ rfl) _ (eps_at h0 h1)
  · obtain ⟨g, cs, rfl, hR, hc⟩ := Row.at_ (h.holds 2 _ rfl) (wy_at hi)
    obtain ⟨A0, c0, rfl, hr⟩ := way_cells hR
    have e : ∀ q, adr (some (⟨g, 0, none⟩ : Addr)) q = ⟨g, q, none⟩ := fun q => by simp only [adr, Option.getD_some]; rw [add_off, Nat.zero_add]
    refine ⟨A0, c0, okw, hr, fun k hk => ⟨2, _, rfl, hk⟩, fun j u hj => ?_, ?_⟩
    · rw [e, add_off]; exact hc j u hj
    · rw [e]; exact hc 1 _ rfl
end
theorem way_cell2 {TW : TypeId} {Aw : Option Addr} {cw : Nat} {okw : Nat → Prop} {s : BagS} {w : World} (h : Row WayE TW w okw (.slice Aw (wy s.ways).length cw) (wy s.ways)) {i : Int} (hi : isW s i = true) : w.cell? (adr Aw (i.toNat * 2 + 1)) = some (.int .i64 (idW s i).2) := by
  obtain ⟨g, cs, rfl, hR, hc⟩ := Row.at_ h (wy_at hi)
  obtain ⟨A0, c0, rfl, hr⟩ := way_cells hR
  have e : ∀ q, adr (some (⟨g, 0, none⟩ : Addr)) q = ⟨g, q, none⟩ := fun q => by simp only [adr, Option.getD_some]; rw [add_off, Nat.zero_add]
  rw [e]; exact hc 1 _ rfl
/-! ### The live question -/
def msgY : MessageD := ⟨2, 0, 1, 5, [], []⟩
theorem msgY_right : rightM msgY = true := by decide
theorem msgY_B : MessageB msgY := ⟨by decide, by decide, by decide, by decide, (fun n hn => by cases hn), (fun n hn => by cases hn)⟩
def bagA1 : BagS := sendS bag0 msgY
def bagA2 : BagS := twiceS bagA1 0
def bagA3 : BagS := rstS bagA2 1
def bagA4 : BagS := takeS bagA3 1
theorem bagA1_is : bagA1 = ⟨[(msgY, 0)], [0, 0, 0, 0, 0, 0, 0, 0], 0⟩ := by unfold bagA1; rw [(send_yes msgY_right).2]; rfl
theorem bagA2_is : bagA2 = ⟨[(msgY, 0), (msgY, 0)], [0, 0, 0, 0, 0, 0, 0, 0], 0⟩ := by unfold bagA2; rw [bagA1_is]; rfl
theorem bagA3_is : bagA3 = ⟨[(msgY, 0), (msgY, 0)], [0, 1, 0, 0, 0, 0, 0, 0], 0⟩ := by unfold bagA3; rw [bagA2_is]; rfl
theorem bagA4_is : bagA4 = ⟨[(msgY, 0)], [0, 1, 0, 0, 0, 0, 0, 0], 0⟩ := by unfold bagA4; rw [bagA3_is]; rfl
theorem live1 : sendE bag0 msgY = 0 := by rw [(send_yes msgY_right).1]; rfl
theorem live2 : twiceE bagA1 0 = 0 := by rw [bagA1_is]; rfl
theorem live3 : lookE bagA3 1 = 0 := by rw [bagA3_is]; rfl
theorem live4 : (lookM bagA3 1).tx = 5 := by rw [bagA3_is]; rfl
theorem live5 : freshS bagA3 1 = false := by rw [bagA3_is]; rfl
theorem live6 : (bagA4.ways.length : Int) = 1 := by rw [bagA4_is]; rfl
theorem live7 : epoS bagA4 1 = 1 := by rw [bagA4_is]; rfl
theorem bagA_ok : BagOk bagA1 ∧ BagOk bagA2 ∧ BagOk bagA3 ∧ BagOk bagA4 :=
  ⟨send_ok bag0_ok msgY_B, twice_ok (send_ok bag0_ok msgY_B) 0, rest_ok (twice_ok (send_ok bag0_ok msgY_B) 0) 1, take_ok (rest_ok (twice_ok (send_ok bag0_ok msgY_B) 0) 1) 1⟩
/-! ### A full bag -/
theorem gi0 {d : Int} (h0 : 0 ≤ d) (h1 : d < 8) : gi [0, 0, 0, 0, 0, 0, 0, 0] d = 0 := by
  obtain ⟨n, rfl⟩ : ∃ n : Nat, d = (n : Int) := ⟨d.toNat, by omega⟩
  rcases n with _ | _ | _ | _ | _ | _ | _ | _ | n
  all_goals first | rfl | omega
theorem w64_id {n : Int} (h0 : -9223372036854775808 ≤ n) (h1 : n < 9223372036854775808) : w64I n = n := w64 h0 h1
end Go.Proofs.YtfocpadeflpabaaGreatDoor.Act
