/- The bag as the document has it: what lies in memory. -/
import Derived.Test.YtfocpadeflpabaaGreatDoorBagDZa
set_option linter.unusedVariables false
set_option linter.unusedSimpArgs false
namespace Go.Proofs.YtfocpadeflpabaaGreatDoor.Act
open Go.RowKit Go.Proofs.YtfocpadeflpabaaGreatDoor.Sx Go.Proofs.YtfocpadeflpabaaGreatDoor.Cod Go.Proofs.YtfocpadeflpabaaGreatDoor.Num
structure RWayD where
  m : MessageD
  epoch : Int
deriving DecidableEq
def RWayD.tup (x : RWayD) : MessageD × Int := (x.m, x.epoch)
def RwayE : Rep RWayD := Rep.iso (Rep.pair MsgE (Rep.int .i64)) RWayD.tup
def grway (xs : List RWayD) (i : Int) : RWayD := xs.getD i.toNat ⟨⟨0, 0, 0, 0, [], []⟩, 0⟩
theorem grway_some {xs : List RWayD} {i : Int} (h0 : 0 ≤ i) (h1 : i < xs.length) : xs[i.toNat]? = some (grway xs i) := by
  have hi : i.toNat < xs.length := by omega
  simp [grway, List.getD_eq_getElem?_getD, List.getElem?_eq_getElem hi]
theorem rway_cells {w : World} {ok : Nat → Prop} {x : RWayD} {cs : List Value} (h : RwayE.R w ok x cs) : ∃ A0 c0 A1 c1, cs = [.int .i64 x.m.kind, .int .i64 x.m.src, .int .i64 x.m.dst, .int .i64 x.m.tx, .slice A0 x.m.nodes.length c0, .slice A1 x.m.changes.length c1, .int .i64 x.epoch] ∧ Rd (Rep.int .i64) w ok A0 x.m.nodes c0 ∧ Rd ChgE w ok A1 x.m.changes c1 := by
  obtain ⟨cc0, dd0, rfl, hs0, hc1⟩ := h
  obtain ⟨A0, c0, A1, c1, rfl, hr0, hr1⟩ := msg_cells hs0
  have he1 : dd0 = [.int .i64 x.epoch] := hc1
  subst he1
  exact ⟨A0, c0, A1, c1, rfl, hr0, hr1⟩
theorem rway_mk {w : World} {ok : Nat → Prop} (x : RWayD) {A0 : Option Addr} {c0 : Nat} (hr0 : Rd (Rep.int .i64) w ok A0 x.m.nodes c0) {A1 : Option Addr} {c1 : Nat} (hr1 : Rd ChgE w ok A1 x.m.changes c1) : RwayE.R w ok x [.int .i64 x.m.kind, .int .i64 x.m.src, .int .i64 x.m.dst, .int .i64 x.m.tx, .slice A0 x.m.nodes.length c0, .slice A1 x.m.changes.length c1, .int .i64 x.epoch] :=
  ⟨[.int .i64 x.m.kind, .int .i64 x.m.src, .int .i64 x.m.dst, .int .i64 x.m.tx, .slice A0 x.m.nodes.length c0, .slice A1 x.m.changes.length c1], _, rfl, (msg_mk x.m hr0 hr1), rfl⟩
theorem rd_rway {w : World} {ok : Nat → Prop} {A : Option Addr} {xs : List RWayD} {c : Nat} (hr : Rd RwayE w ok A xs c) {i : Nat} {f : RWayD} (hx : xs[i]? = some f) : ∃ A0 c0 A1 c1, Rd (Rep.int .i64) w ok A0 f.m.nodes c0 ∧ Rd ChgE w ok A1 f.m.changes c1 ∧ w.cell? (adr A (i * 7)) = some (.int .i64 f.m.kind) ∧ w.cell? (adr A (i * 7 + 1)) = some (.int .i64 f.m.src) ∧ w.cell? (adr A (i * 7 + 2)) = some (.int .i64 f.m.dst) ∧ w.cell? (adr A (i * 7 + 3)) = some (.int .i64 f.m.tx) ∧ w.cell? (adr A (i * 7 + 4)) = some (.slice A0 f.m.nodes.length c0) ∧ w.cell? (adr A (i * 7 + 5)) = some (.slice A1 f.m.changes.length c1) ∧ w.cell? (adr A (i * 7 + 6)) = some (.int .i64 f.epoch) ∧
    (∀ j u, (#[.int .i64 f.m.kind, .int .i64 f.m.src, .int .i64 f.m.dst, .int .i64 f.m.tx, .slice A0 f.m.nodes.length c0, .slice A1 f.m.changes.length c1, .int .i64 f.epoch] : Array Value).toList[j]? = some u → w.cell? ((adr A (i * 7)).add j) = some u) := by
  obtain ⟨cs, hR, hc⟩ := hr.cellsA (n := 7) rfl hx
  obtain ⟨A0, c0, A1, c1, rfl, hr0, hr1⟩ := rway_cells hR
  obtain ⟨b, off, rfl⟩ := hr.some_ (by have := (List.getElem?_eq_some_iff.1 hx).1; omega)
  have e : ∀ q, adr (some (⟨b, off, Option.none⟩ : Addr)) q = ⟨b, off + q, Option.none⟩ := fun q => by simp only [adr, Option.getD_some]; exact add_off _ _ _
  have g : ∀ j u, [(.int .i64 f.m.kind : Value), .int .i64 f.m.src, .int .i64 f.m.dst, .int .i64 f.m.tx, .slice A0 f.m.nodes.length c0, .slice A1 f.m.changes.length c1, .int .i64 f.epoch][j]? = some u → w.cell? (adr (some (⟨b, off, Option.none⟩ : Addr)) (i * 7 + j)) = some u := fun j u hj => by
    have := hc j u hj
    rw [e, add_off] at this
    rw [e, ← Nat.add_assoc]; exact this
  exact ⟨A0, c0, A1, c1, hr0, hr1, g 0 _ rfl, g 1 _ rfl, g 2 _ rfl, g 3 _ rfl, g 4 _ rfl, g 5 _ rfl, g 6 _ rfl, fun j u hj => hc j u hj⟩
def rwy (l : List (MessageD × Int)) : List RWayD := l.map fun p => ⟨p.1, p.2⟩
theorem rwy_len (l : List (MessageD × Int)) : (rwy l).length = l.length := List.length_map _
theorem rwy_del (l : List (MessageD × Int)) (i j : Nat) : (rwy l).take i ++ (rwy l).drop j = rwy (l.take i ++ l.drop j) := by
  unfold rwy; rw [List.map_append, List.map_take, List.map_drop]
theorem rwy_put (l : List (MessageD × Int)) (p : MessageD × Int) : rwy l ++ [⟨p.1, p.2⟩] = rwy (l ++ [p]) := by unfold rwy; rw [List.map_append]; rfl
theorem rwy_at {s : BagS} {i : Int} (h : isW s i = true) : grway (rwy s.ways) i = ⟨(idW s i).1, (idW s i).2⟩ := by
  have h1 := (idW_mem h).2
  unfold grway rwy
  rw [List.getD_eq_getElem?_getD, List.getElem?_map, h1]
  rfl
/-- The document's bag lies at bl; its row is only read. -/
def RBagA (T : TypeId) (bl : Nat) (s : BagS) (X : Asn) : Prop :=
  ∃ (Al : Option Addr) (cl : Nat) (okl : Nat → Prop), X = Asn.all [(1, .blk bl (.cells #[.slice Al (rwy s.ways).length cl, .int .i64 (gi s.eps 0), .int .i64 (gi s.eps 1), .int .i64 (gi s.eps 2), .int .i64 (gi s.eps 3), .int .i64 (gi s.eps 4), .int .i64 (gi s.eps 5), .int .i64 (gi s.eps 6), .int .i64 (gi s.eps 7), .int .i64 s.lost] T (0, 0))), (2, .rd_ RwayE Al (rwy s.ways) cl okl)]
theorem rbag_ro {T : TypeId} {bl : Nat} {s : BagS} {Al : Option Addr} {cl : Nat} {okl : Nat → Prop} {w : World} (h : (Asn.all [(1, .blk bl (.cells #[.slice Al (rwy s.ways).length cl, .int .i64 (gi s.eps 0), .int .i64 (gi s.eps 1), .int .i64 (gi s.eps 2), .int .i64 (gi s.eps 3), .int .i64 (gi s.eps 4), .int .i64 (gi s.eps 5), .int .i64 (gi s.eps 6), .int .i64 (gi s.eps 7), .int .i64 s.lost] T (0, 0))), (2, .rd_ RwayE Al (rwy s.ways) cl okl)]).holds w) :
    Hp (fun _ => False) w w [(1, .ro (.blk bl (.cells #[.slice Al (rwy s.ways).length cl, .int .i64 (gi s.eps 0), .int .i64 (gi s.eps 1), .int .i64 (gi s.eps 2), .int .i64 (gi s.eps 3), .int .i64 (gi s.eps 4), .int .i64 (gi s.eps 5), .int .i64 (gi s.eps 6), .int .i64 (gi s.eps 7), .int .i64 s.lost] T (0, 0)))), (2, .rd_ RwayE Al (rwy s.ways) cl okl)] := by
  have h1 := (Hp.ofAll h).roAny 1 rfl
  have h2 := h1.sub [(1, .ro (.blk bl (.cells #[.slice Al (rwy s.ways).length cl, .int .i64 (gi s.eps 0), .int .i64 (gi s.eps 1), .int .i64 (gi s.eps 2), .int .i64 (gi s.eps 3), .int .i64 (gi s.eps 4), .int .i64 (gi s.eps 5), .int .i64 (gi s.eps 6), .int .i64 (gi s.eps 7), .int .i64 s.lost] T (0, 0)))), (2, .rd_ RwayE Al (rwy s.ways) cl okl)] (sub_cons (sub_cons (sub_nil _) 2 rfl) 1 rfl)
  have hno : ∀ k, OwnL [(1, .ro (.blk bl (.cells #[.slice Al (rwy s.ways).length cl, .int .i64 (gi s.eps 0), .int .i64 (gi s.eps 1), .int .i64 (gi s.eps 2), .int .i64 (gi s.eps 3), .int .i64 (gi s.eps 4), .int .i64 (gi s.eps 5), .int .i64 (gi s.eps 6), .int .i64 (gi s.eps 7), .int .i64 s.lost] T (0, 0)))), (2, .rd_ RwayE Al (rwy s.ways) cl okl)] k → False := own_cons (fun k h => h.elim) (own_cons (fun k h => h.elim) own_nil)
  exact ⟨Mods.refl _ _, h2.holds, fun i A hA k hk => (hno k ⟨i, A, hA, hk⟩).elim, h2.inb, h2.self, h2.sep⟩
theorem take_eps (s : BagS) (i : Int) : (takeS s i).eps = s.eps := by unfold takeS; split <;> rfl
theorem _root_.Go.Proofs.YtfocpadeflpabaaGreatDoor.Sx.Hp.readOld2 {B : Nat → Prop} {w0 w w' : World} {H : List (Nat × Asn)} {X X' : Asn} {α β : Type} {E : Rep α} {F : Rep β} {A A2 : Option Addr} {xs : List α} {ys : List β} {c c2 : Nat} {ok : Nat → Prop} (l l2 l3 : Nat) (h : Hp B w0 w H) (h' : Hp B w0 w' ((l, X') :: H)) (hl : get H l = some X) (hr : Rd E w' ok A xs c) (hr2 : Rd F w' ok A2 ys c2) (hsub : ∀ k, ok k → X.rd k) (hap : ∀ k, X'.own k → ¬ ok k) (hsz : w.heap.size ≤ w'.heap.size) :
    Hp B w0 w' ((l3, .rd_ F A2 ys c2 ok) :: (l2, .rd_ E A xs c ok) :: (l, X') :: H) := by
  have hin : ∀ k, ok k → k < w'.heap.size := fun k hk => Nat.lt_of_lt_of_le (h.inb l X hl k (.inr (hsub k hk))) hsz
  have hsep : ∀ i Y, get ((l, X') :: H) i = some Y → ∀ k, Y.own k → ¬ ok k := fun i Y hY k hk hk2 => by
    rw [get_cons] at hY
    split at hY
    · cases hY; exact hap k hk hk2
    · rename_i e; exact h.sep i l Y X (fun e' => e e'.symm) hY hl k hk (.inr (hsub k hk2))
  refine (h'.readable l2 hr hin hsep).readable l3 hr2 hin (fun i Y hY k hk hk2 => ?_)
  rw [get_cons] at hY
  split at hY
  · cases hY; exact hk
  · exact hsep i Y hY k hk hk2
theorem look_rwy {s : BagS} {i : Int} (h : isW s i = true) : lookM s i = (grway (rwy s.ways) i).m := by rw [rwy_at h, (look_yes h).1]
theorem pre_cells {P : Nat → Value → Prop} (cs ds : List Value) (h : ∀ j u, (cs ++ ds)[j]? = some u → P j u) : ∀ j u, cs[j]? = some u → P j u := fun j u hj => h j u (by
  rw [List.getElem?_append_left (by have := (List.getElem?_eq_some_iff.1 hj).1; exact this)]; exact hj)
/-! ### Which messages are right, from what was looked at -/
theorem i1_nat {i : Int} (h : 0 ≤ i) : (i + 1).toNat = i.toNat + 1 := by omega
theorem in_step {l : List Int} {d : Int} {k : Nat} (hk : (k : Int) < l.length) : decide (d ∈ l.take (k + 1)) = (decide (d ∈ l.take k) || decide (gi l (k : Int) = d)) := by
  have hk' : k < l.length := by omega
  have hg : l[k] = gi l (k : Int) := by
    have := gi_some (xs := l) (i := (k : Int)) (by omega) hk
    rw [Int.toNat_natCast, List.getElem?_eq_getElem hk'] at this
    exact Option.some.inj this
  rw [List.take_succ_eq_append_getElem hk', hg, Bool.eq_iff_iff]
  simp only [List.mem_append, List.mem_singleton, Bool.or_eq_true, decide_eq_true_eq]
  constructor
  · rintro (h | h)
    · exact .inl h
    · exact .inr h.symm
  · rintro (h | h)
    · exact .inl h
    · exact .inr h.symm
section
variable {m : MessageD}
theorem rightM_out (h : m.kind < 1 ∨ 7 < m.kind ∨ m.src < 0 ∨ 8 ≤ m.src ∨ m.dst < 0 ∨ 8 ≤ m.dst ∨ m.tx < 1 ∨ 1099511627776 < m.tx) : rightM m = false := by
  cases hr : rightM m with
  | false => rfl
  | true => have R := rightM_parts hr; have := R.kind; have := R.src; have := R.dst; have := R.tx; omega
theorem rightM_in (h : 1 ≤ m.kind ∧ m.kind ≤ 7 ∧ 0 ≤ m.src ∧ m.src < 8 ∧ 0 ≤ m.dst ∧ m.dst < 8 ∧ 1 ≤ m.tx ∧ m.tx ≤ 1099511627776) :
    rightM m = (if m.kind = 1 then (decide (m.dst ∈ m.nodes) && nodesFrom (-1) m.nodes) && (decide (m.changes.length ≤ 32) && m.changes.all rightC) else decide (m.nodes.length = 0) && decide (m.changes.length = 0)) := by
  obtain ⟨h1, h2, h3, h4, h5, h6, h7, h8⟩ := h
  unfold rightM nodeI
  rw [decide_eq_true h1, decide_eq_true h2, decide_eq_true h3, decide_eq_true h4, decide_eq_true h5, decide_eq_true h6, decide_eq_true h7, decide_eq_true h8]
  rfl
theorem rightM_no1 (hk : m.kind = 1) (h : (nodesFrom (-1) m.nodes && decide ((0 : Int) < (m.nodes.length : Int))) = false) : rightM m = false := by
  cases hr : rightM m with
  | false => rfl
  | true =>
    obtain ⟨h1, h2, _⟩ := (rightM_parts hr).prep hk
    have := List.length_pos_of_mem h1
    rw [h2, decide_eq_true (by omega)] at h; cases h
theorem rightM_no2 (hk : m.kind = 1) {b : Bool} (hb : b = decide (m.dst ∈ m.nodes)) (h : b = false) : rightM m = false := by
  cases hr : rightM m with
  | false => rfl
  | true => obtain ⟨h1, h2, _⟩ := (rightM_parts hr).prep hk; rw [hb, decide_eq_true h1] at h; cases h
theorem rightM_no3 (hk : m.kind = 1) (h : (32 : Int) < (m.changes.length : Int)) : rightM m = false := by
  cases hr : rightM m with
  | false => rfl
  | true => obtain ⟨_, _, h3, _⟩ := (rightM_parts hr).prep hk; omega
theorem rightM_no4 (hk : m.kind = 1) {j : Nat} (hj : (j : Int) < m.changes.length) (h : rightC (gchg m.changes (j : Int)) = false) : rightM m = false := by
  cases hr : rightM m with
  | false => rfl
  | true => obtain ⟨_, _, _, h4⟩ := (rightM_parts hr).prep hk; rw [right_bad hj h] at h4; cases h4
theorem rightM_yes (h : 1 ≤ m.kind ∧ m.kind ≤ 7 ∧ 0 ≤ m.src ∧ m.src < 8 ∧ 0 ≤ m.dst ∧ m.dst < 8 ∧ 1 ≤ m.tx ∧ m.tx ≤ 1099511627776) (hk : m.kind = 1) (h1 : (nodesFrom (-1) m.nodes && decide ((0 : Int) < (m.nodes.length : Int))) = true) {b : Bool} (hb : b = decide (m.dst ∈ m.nodes)) (h2 : b = true) (h3 : ¬ (32 : Int) < (m.changes.length : Int)) (h4 : m.changes.all rightC = true) : rightM m = true := by
  rw [Bool.and_eq_true] at h1
  rw [rightM_in h, if_pos hk, ← hb, h2, h1.1, h4, decide_eq_true (show m.changes.length ≤ 32 by omega)]
  rfl
end
end Go.Proofs.YtfocpadeflpabaaGreatDoor.Act
