/- The table as the document has it: what lies in memory, and how it goes with the other. -/
import Derived.Test.YtiiklnghnifmjaaDoorRefDZu
set_option linter.unusedVariables false
set_option linter.unusedSimpArgs false
namespace Go.Proofs.YtiiklnghnifmjaaDoor.Act
open Go.RowKit Go.Proofs.YtiiklnghnifmjaaDoor.Sx Go.Proofs.YtiiklnghnifmjaaDoor.Cod Go.Proofs.YtiiklnghnifmjaaDoor.Num
structure KnowD where
  client : List Int
  number : Int
  finished : Bool
  ans : AnswerD
deriving DecidableEq
def KnowD.tup (x : KnowD) : (List Int) × Int × Bool × AnswerD := (x.client, x.number, x.finished, x.ans)
def KnowE : Rep KnowD := Rep.iso (Rep.pair Rep.sn (Rep.pair (Rep.int .i64) (Rep.pair Rep.bool AnsE))) KnowD.tup
def gknow (xs : List KnowD) (i : Int) : KnowD := xs.getD i.toNat ⟨[], 0, false, ⟨0, 0, []⟩⟩
theorem gknow_some {xs : List KnowD} {i : Int} (h0 : 0 ≤ i) (h1 : i < xs.length) : xs[i.toNat]? = some (gknow xs i) := by
  have hi : i.toNat < xs.length := by omega
  simp [gknow, List.getD_eq_getElem?_getD, List.getElem?_eq_getElem hi]
theorem gknow_at {xs : List KnowD} {j : Nat} (h : j < xs.length) : xs[j]? = some (gknow xs (j : Int)) := gknow_some (xs := xs) (i := (j : Int)) (by omega) (by omega)
theorem know_cells {w : World} {ok : Nat → Prop} {x : KnowD} {cs : List Value} (h : KnowE.R w ok x cs) : ∃ A0 c0, cs = [.string (strOfNums x.client), .int .i64 x.number, .bool x.finished, .int .i64 x.ans.outcome, .int .i64 x.ans.err, .slice A0 x.ans.results.length c0] ∧ Rd ResE w ok A0 x.ans.results c0 := by
  obtain ⟨cc0, dd0, rfl, hc0, cc1, dd1, rfl, hc1, cc2, dd2, rfl, hc2, hs3⟩ := h
  have he0 : cc0 = [.string (strOfNums x.client)] := hc0
  subst he0
  have he1 : cc1 = [.int .i64 x.number] := hc1
  subst he1
  have he2 : cc2 = [.bool x.finished] := hc2
  subst he2
  obtain ⟨A0, c0, rfl, hr0⟩ := ans_cells hs3
  exact ⟨A0, c0, rfl, hr0⟩
theorem know_mk {w : World} {ok : Nat → Prop} (x : KnowD) {A0 : Option Addr} {c0 : Nat} (hr0 : Rd ResE w ok A0 x.ans.results c0) : KnowE.R w ok x [.string (strOfNums x.client), .int .i64 x.number, .bool x.finished, .int .i64 x.ans.outcome, .int .i64 x.ans.err, .slice A0 x.ans.results.length c0] :=
  ⟨[.string (strOfNums x.client)], _, rfl, rfl, [.int .i64 x.number], _, rfl, rfl, [.bool x.finished], _, rfl, rfl, (ans_mk x.ans hr0)⟩
theorem rd_know {w : World} {ok : Nat → Prop} {A : Option Addr} {xs : List KnowD} {c : Nat} (hr : Rd KnowE w ok A xs c) {i : Nat} {f : KnowD} (hx : xs[i]? = some f) : ∃ A0 c0, Rd ResE w ok A0 f.ans.results c0 ∧ w.cell? (adr A (i * 6)) = some (.string (strOfNums f.client)) ∧ w.cell? (adr A (i * 6 + 1)) = some (.int .i64 f.number) ∧ w.cell? (adr A (i * 6 + 2)) = some (.bool f.finished) ∧ w.cell? (adr A (i * 6 + 3)) = some (.int .i64 f.ans.outcome) ∧ w.cell? (adr A (i * 6 + 4)) = some (.int .i64 f.ans.err) ∧ w.cell? (adr A (i * 6 + 5)) = some (.slice A0 f.ans.results.length c0) ∧
    (∀ j u, (#[.string (strOfNums f.client), .int .i64 f.number, .bool f.finished, .int .i64 f.ans.outcome, .int .i64 f.ans.err, .slice A0 f.ans.results.length c0] : Array Value).toList[j]? = some u → w.cell? ((adr A (i * 6)).add j) = some u) := by
  obtain ⟨cs, hR, hc⟩ := hr.cellsA (n := 6) rfl hx
  obtain ⟨A0, c0, rfl, hr0⟩ := know_cells hR
  obtain ⟨b, off, rfl⟩ := hr.some_ (by have := (List.getElem?_eq_some_iff.1 hx).1; omega)
  have e : ∀ q, adr (some (⟨b, off, Option.none⟩ : Addr)) q = ⟨b, off + q, Option.none⟩ := fun q => by simp only [adr, Option.getD_some]; exact add_off _ _ _
  have g : ∀ j u, [(.string (strOfNums f.client) : Value), .int .i64 f.number, .bool f.finished, .int .i64 f.ans.outcome, .int .i64 f.ans.err, .slice A0 f.ans.results.length c0][j]? = some u → w.cell? (adr (some (⟨b, off, Option.none⟩ : Addr)) (i * 6 + j)) = some u := fun j u hj => by
    have := hc j u hj
    rw [e, add_off] at this
    rw [e, ← Nat.add_assoc]; exact this
  exact ⟨A0, c0, hr0, g 0 _ rfl, g 1 _ rfl, g 2 _ rfl, g 3 _ rfl, g 4 _ rfl, g 5 _ rfl, fun j u hj => hc j u hj⟩
/-- The document's table lies at bl; its row is only read. -/
def KnoA (T : TypeId) (bl : Nat) (l : List KnowD) (X : Asn) : Prop :=
  ∃ (Al : Option Addr) (cl : Nat) (okl : Nat → Prop), X = Asn.all [(1, .blk bl (.cells #[.slice Al l.length cl] T (0, 0))), (2, .rd_ KnowE Al l cl okl)]
theorem kno_ro {T : TypeId} {bl : Nat} {l : List KnowD} {Al : Option Addr} {cl : Nat} {okl : Nat → Prop} {w : World} (h : (Asn.all [(1, .blk bl (.cells #[.slice Al l.length cl] T (0, 0))), (2, .rd_ KnowE Al l cl okl)]).holds w) :
    Hp (fun _ => False) w w [(1, .ro (.blk bl (.cells #[.slice Al l.length cl] T (0, 0)))), (2, .rd_ KnowE Al l cl okl)] := by
  have h1 := (Hp.ofAll h).roAny 1 rfl
  have h2 := h1.sub [(1, .ro (.blk bl (.cells #[.slice Al l.length cl] T (0, 0)))), (2, .rd_ KnowE Al l cl okl)] (sub_cons (sub_cons (sub_nil _) 2 rfl) 1 rfl)
  have hno : ∀ k, OwnL [(1, .ro (.blk bl (.cells #[.slice Al l.length cl] T (0, 0)))), (2, .rd_ KnowE Al l cl okl)] k → False := own_cons (fun k h => h.elim) (own_cons (fun k h => h.elim) own_nil)
  exact ⟨Mods.refl _ _, h2.holds, fun i A hA k hk => (hno k ⟨i, A, hA, hk⟩).elim, h2.inb, h2.self, h2.sep⟩
theorem tab_ro {T : TypeId} {bt bm : Nat} {m : TabM} {okm : Nat → Prop} {w : World} (h : (Asn.all [(1, .blk bt (.cells #[.map (some bm)] T (0, 0))), (2, .map KS LV bm m okm)]).holds w) :
    Hp (fun _ => False) w w [(1, .ro (.blk bt (.cells #[.map (some bm)] T (0, 0)))), (2, .ro (.map KS LV bm m okm))] := by
  have h1 := ((Hp.ofAll h).roAny 1 rfl).roAny 2 rfl
  have h2 := h1.sub [(1, .ro (.blk bt (.cells #[.map (some bm)] T (0, 0)))), (2, .ro (.map KS LV bm m okm))] (sub_cons (sub_cons (sub_nil _) 2 rfl) 1 rfl)
  have hno : ∀ k, OwnL [(1, .ro (.blk bt (.cells #[.map (some bm)] T (0, 0)))), (2, .ro (.map KS LV bm m okm))] k → False := own_cons (fun k h => h.elim) (own_cons (fun k h => h.elim) own_nil)
  exact ⟨Mods.refl _ _, h2.holds, fun i A hA k hk => (hno k ⟨i, A, hA, hk⟩).elim, h2.inb, h2.self, h2.sep⟩
def knew (c : List Int) (n : Int) (f : Bool) (a : AnswerD) : KnowD := ⟨c, n, f, a⟩
def lastK (x : KnowD) : LastD := ⟨x.number, x.finished, x.ans⟩
/-- The list says what the map says. -/
structure Rel (l : List KnowD) (m : TabM) : Prop where
  byte : ∀ (i : Nat) x, l[i]? = some x → Byte x.client ∧ x.client.length ≤ 15
  one : ∀ (i j : Nat) x y, l[i]? = some x → l[j]? = some y → x.client = y.client → i = j
  has : ∀ (i : Nat) x, l[i]? = some x → al m (strOfNums x.client) = some (lastK x)
  no : ∀ c, Byte c → (∀ (i : Nat) x, l[i]? = some x → x.client ≠ c) → al m (strOfNums c) = none
theorem rel_nil : Rel [] [] := ⟨fun i x h => by simp at h, fun i j x y h => by simp at h, fun i x h => by simp at h, fun c _ _ => rfl⟩
theorem str_ne {a b : List Int} (ha : Byte a) (hb : Byte b) (h : a ≠ b) : ¬ strOfNums a = strOfNums b := fun e => h (sn_inj _ _ ha hb (by rw [e]))
theorem rel_add {l : List KnowD} {m : TabM} (h : Rel l m) {c : List Int} (hc : Byte c) (hl : c.length ≤ 15) (hno : ∀ (i : Nat) x, l[i]? = some x → x.client ≠ c) (n : Int) (f : Bool) (a : AnswerD) : Rel (l ++ [knew c n f a]) (mput m (strOfNums c) ⟨n, f, a⟩) := by
  have two : ∀ (i : Nat) x, (l ++ [knew c n f a])[i]? = some x → l[i]? = some x ∨ (i = l.length ∧ x = knew c n f a) := by
    intro i x hx
    rw [List.getElem?_append] at hx
    split at hx
    · exact .inl hx
    · rename_i hi
      by_cases e : i = l.length
      · subst e; simp at hx; exact .inr ⟨rfl, hx.symm⟩
      · rw [List.getElem?_eq_none_iff.2 (by simp; omega)] at hx; cases hx
  refine ⟨fun i x hx => ?_, fun i j x y hx hy e => ?_, fun i x hx => ?_, fun c' hc' hn => ?_⟩
  · rcases two i x hx with h1 | ⟨_, rfl⟩
    · exact h.byte i x h1
    · exact ⟨hc, hl⟩
  · rcases two i x hx with h1 | ⟨h1, rfl⟩ <;> rcases two j y hy with h2 | ⟨h2, rfl⟩
    · exact h.one i j x y h1 h2 e
    · exact (hno i x h1 e).elim
    · exact (hno j y h2 e.symm).elim
    · omega
  · rw [al_put]
    rcases two i x hx with h1 | ⟨_, rfl⟩
    · rw [if_neg (str_ne hc (h.byte i x h1).1 (fun e => hno i x h1 e.symm))]; exact h.has i x h1
    · rw [if_pos (show strOfNums c = strOfNums (knew c n f a).client from rfl)]; rfl
  · rw [al_put, if_neg (str_ne hc hc' (hn l.length (knew c n f a) (by simp)))]
    exact h.no c' hc' (fun i x hx => hn i x (by rw [List.getElem?_append_left (List.getElem?_eq_some_iff.1 hx).1]; exact hx))
theorem rel_set {l : List KnowD} {m : TabM} (h : Rel l m) {i : Nat} {x : KnowD} (hx : l[i]? = some x) {c : List Int} (hc : x.client = c) (n : Int) (f : Bool) (a : AnswerD) : Rel (l.set i (knew c n f a)) (mput m (strOfNums c) ⟨n, f, a⟩) := by
  subst hc
  have hi : i < l.length := (List.getElem?_eq_some_iff.1 hx).1
  have two : ∀ (j : Nat) y, (l.set i (knew x.client n f a))[j]? = some y → (j ≠ i ∧ l[j]? = some y) ∨ (j = i ∧ y = knew x.client n f a) := by
    intro j y hy
    rw [List.getElem?_set] at hy
    split at hy
    · rename_i e; subst e; first | (rw [if_pos hi] at hy; cases hy; exact .inr ⟨rfl, rfl⟩) | (cases hy; exact .inr ⟨rfl, rfl⟩)
    · rename_i e; exact .inl ⟨fun q => e q.symm, hy⟩
  have hbx := h.byte i x hx
  refine ⟨fun j y hy => ?_, fun j j' y y' hy hy' e => ?_, fun j y hy => ?_, fun c' hc' hn => ?_⟩
  · rcases two j y hy with ⟨_, h1⟩ | ⟨_, rfl⟩
    · exact h.byte j y h1
    · exact hbx
  · rcases two j y hy with ⟨hj, h1⟩ | ⟨hj, rfl⟩ <;> rcases two j' y' hy' with ⟨hj', h2⟩ | ⟨hj', rfl⟩
    · exact h.one j j' y y' h1 h2 e
    · exact (hj (h.one j i y x h1 hx e)).elim
    · exact (hj' (h.one j' i y' x h2 hx e.symm)).elim
    · omega
  · rw [al_put]
    rcases two j y hy with ⟨hj, h1⟩ | ⟨_, rfl⟩
    · rw [if_neg (str_ne hbx.1 (h.byte j y h1).1 (fun e => hj (h.one j i y x h1 hx e.symm)))]; exact h.has j y h1
    · rw [if_pos (show strOfNums x.client = strOfNums (knew x.client n f a).client from rfl)]; rfl
  · have hne : x.client ≠ c' := hn i (knew x.client n f a) (by rw [List.getElem?_set, if_pos rfl, if_pos hi])
    rw [al_put, if_neg (str_ne hbx.1 hc' hne)]
    refine h.no c' hc' (fun j y hy => ?_)
    by_cases e : j = i
    · subst e; rw [hx] at hy; cases hy; exact hne
    · exact hn j y (by rw [List.getElem?_set, if_neg (fun q => e q.symm)]; exact hy)
def FindP (l : List KnowD) (c : List Int) (i : Int) : Prop := (i < 0 ∧ ∀ (j : Nat) x, l[j]? = some x → x.client ≠ c) ∨ (0 ≤ i ∧ i < (l.length : Int) ∧ (gknow l i).client = c)
theorem find_no {l : List KnowD} {c : List Int} {i : Int} (h : FindP l c i) (hi : i < 0) : ∀ (j : Nat) x, l[j]? = some x → x.client ≠ c := h.elim (fun h => h.2) (fun h => by have := h.1; omega)
theorem find_yes {l : List KnowD} {c : List Int} {i : Int} (h : FindP l c i) (hi : ¬ i < 0) : 0 ≤ i ∧ i < (l.length : Int) ∧ (gknow l i).client = c := h.elim (fun h => absurd h.1 hi) id
theorem find_end {l : List KnowD} {c : List Int} (h : ∀ (j : Nat) x, j < l.length → l[j]? = some x → x.client ≠ c) : FindP l c (-1) := .inl ⟨by decide, fun j x hx => h j x (List.getElem?_eq_some_iff.1 hx).1 hx⟩
theorem find_step {l : List KnowD} {c : List Int} {k : Nat} (h : ∀ (j : Nat) x, j < k → l[j]? = some x → x.client ≠ c) (hk : k < l.length) (hne : ¬ (gknow l (k : Int)).client = c) : ∀ (j : Nat) x, j < k + 1 → l[j]? = some x → x.client ≠ c := fun j x hj hx => by
  by_cases e : j = k
  · subst e; rw [gknow_at hk] at hx; cases hx; exact hne
  · exact h j x (by omega) hx
theorem rel_hit {l : List KnowD} {m : TabM} (h : Rel l m) {c : List Int} {i : Int} (hf : 0 ≤ i ∧ i < (l.length : Int) ∧ (gknow l i).client = c) : (al m (strOfNums c)).isSome = true ∧ getT m (strOfNums c) = lastK (gknow l i) := by
  have := h.has i.toNat _ (gknow_some hf.1 hf.2.1)
  rw [hf.2.2] at this
  unfold getT
  rw [this]; exact ⟨rfl, rfl⟩
theorem rel_miss {l : List KnowD} {m : TabM} (h : Rel l m) {c : List Int} (hc : Byte c) (hn : ∀ (j : Nat) x, l[j]? = some x → x.client ≠ c) : (al m (strOfNums c)).isSome = false ∧ getT m (strOfNums c) = last0 := by
  have := h.no c hc hn
  unfold getT
  rw [this]; exact ⟨rfl, rfl⟩
def nobody : List Int := [110, 111, 98, 111, 100, 121, 32, 111, 102, 32, 116, 104, 101, 115, 101, 32, 99, 108, 105, 101, 110, 116, 115]
theorem rel_nobody {l : List KnowD} {m : TabM} (h : Rel l m) : getT m (strOfNums nobody) = last0 :=
  (rel_miss h (by intro x hx; simp [nobody] at hx; omega) (fun j x hx e => by have := (h.byte j x hx).2; rw [e] at this; exact absurd this (by decide))).2
theorem rel_last {l : List KnowD} {m : TabM} (h : Rel l m) {j : Nat} (hj : j < l.length) : getT m (strOfNums (gknow l (j : Int)).client) = lastK (gknow l (j : Int)) :=
  (rel_hit h (i := (j : Int)) ⟨by omega, by omega, rfl⟩).2
def resN (n : Int) : ResultD := ⟨false, [], n, 0⟩
end Go.Proofs.YtiiklnghnifmjaaDoor.Act
