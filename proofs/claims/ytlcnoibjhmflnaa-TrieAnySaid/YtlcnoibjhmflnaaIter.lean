/- Range over a function: bundles of assertions, rounds, iterators. -/
import Derived.Test.YtlcnoibjhmflnaaRng
import Derived.RangeFuncRecord
set_option linter.unusedVariables false
set_option linter.unusedSimpArgs false
namespace Go.Proofs.Ytlcnoibjhmflnaa.Sx
open Go.RowKit
/-! ### A bundle of assertions -/
def OwnL (L : List (Nat × Asn)) (k : Nat) : Prop := ∃ i A, get L i = some A ∧ A.own k
def RdL (L : List (Nat × Asn)) (k : Nat) : Prop := ∃ i A, get L i = some A ∧ A.rd k
def Asn.all (L : List (Nat × Asn)) : Asn where
  own := OwnL L
  rd := RdL L
  holds w := Hp (fun _ => True) w w L
  stable := by
    intro w w' h hw
    have e : ∀ i A, get L i = some A → ∀ k, A.own k ∨ A.rd k → w'.heap[k]? = w.heap[k]? := fun i A hA k hk => h k (hk.imp (fun x => ⟨i, A, hA, x⟩) (fun x => ⟨i, A, hA, x⟩))
    refine ⟨Mods.refl _ _, fun i A hA => A.stable (e i A hA) (hw.holds i A hA), fun _ _ _ _ _ => .inl trivial, fun i A hA k hk => ?_, hw.self, hw.sep⟩
    have h1 := hw.inb i A hA k hk
    have h2 := e i A hA k hk
    rw [Array.getElem?_eq_getElem h1] at h2
    exact (Array.getElem?_eq_some_iff.1 h2).1
section
variable {B : Nat → Prop} {w0 w w' : World} {H L L' : List (Nat × Asn)} {X X' : Asn}
theorem Hp.asAll (h : Hp B w0 w H) : (Asn.all H).holds w := ⟨Mods.refl _ _, h.holds, fun _ _ _ _ _ => .inl trivial, h.inb, h.self, h.sep⟩
theorem Hp.ofAll (h : (Asn.all L).holds w) : Hp (OwnL L) w w L := ⟨Mods.refl _ _, h.holds, fun i A hA k hk => .inl ⟨i, A, hA, hk⟩, h.inb, h.self, h.sep⟩
/-- What an assertion's blocks are. -/
structure Asn.ok (X : Asn) (w : World) : Prop where
  holds : X.holds w
  inb : ∀ k, X.own k ∨ X.rd k → k < w.heap.size
  self : ∀ k, X.own k → ¬ X.rd k
theorem Hp.okAll (h : Hp B w0 w H) : (Asn.all H).ok w := ⟨h.asAll, by
  rintro k (⟨i, A, hA, hk⟩ | ⟨i, A, hA, hk⟩)
  · exact h.inb i A hA k (.inl hk)
  · exact h.inb i A hA k (.inr hk), by
  rintro k ⟨i, A, hA, hk⟩ ⟨j, A', hA', hk'⟩
  by_cases e : i = j
  · subst e; rw [hA] at hA'; cases hA'; exact h.self i A hA k hk hk'
  · exact h.sep i j A A' e hA hA' k hk (.inr hk')⟩
/-- How an assertion has turned: bs: other blocks that may have been written; rdY: what may be read from now on. -/
structure Grew (bs rdY : Nat → Prop) (X : Asn) (w w' : World) (X' : Asn) : Prop where
  mods : Mods (fun k => X.own k ∨ bs k) w w'
  ok : X'.ok w'
  own : ∀ k, X'.own k → X.own k ∨ w.heap.size ≤ k
  rd : ∀ k, X'.rd k → X.own k ∨ X.rd k ∨ rdY k ∨ w.heap.size ≤ k
theorem Hp.grew (h : Hp B w0 w H) (l : Nat) (hl : get H l = some X) {rdY : Nat → Prop} (g : Grew (fun _ => False) rdY X w w' X') (hY : ∀ k, rdY k → ∃ j A, get H j = some A ∧ A.rd k) : Hp B w0 w' ((l, X') :: H) :=
  h.one g.mods l X' (fun k hk => ⟨X, hl, hk.resolve_right id⟩) g.ok.holds (fun k hk => (g.own k hk).imp (fun h => ⟨X, hl, h⟩) id)
    (fun k hk => by
      rcases g.rd k hk with h1 | h1 | h1 | h1
      · exact .inl ⟨X, hl, h1⟩
      · exact .inr (.inl ⟨l, X, hl, h1⟩)
      · exact .inr (.inl (hY k h1))
      · exact .inr (.inr h1)) g.ok.inb g.ok.self
/-- An assertion of the caller's is taken over. -/
theorem Hp.takes {bs : Nat → Prop} (h : Hp B w0 w H) (l : Nat) (hn : ∀ j A, get H j = some A → ∀ k, A.own k → ¬ (X.own k ∨ X.rd k)) (hn2 : ∀ j A, get H j = some A → ∀ k, A.rd k → ¬ X.own k) (hB : ∀ k, X.own k → B k) (ho : X.ok w) : Hp B w0 w ((l, X) :: H) := by
  have two : ∀ i A, get ((l, X) :: H) i = some A → (i = l ∧ A = X) ∨ (i ≠ l ∧ get H i = some A) := by
    intro i A hA
    rw [get_cons] at hA
    split at hA
    · rename_i e; cases hA; exact .inl ⟨e.symm, rfl⟩
    · rename_i e; exact .inr ⟨fun h => e h.symm, hA⟩
  refine ⟨h.mods, ?_, ?_, ?_, ?_, ?_⟩
  · intro i A hA
    rcases two i A hA with ⟨_, rfl⟩ | ⟨_, h1⟩
    · exact ho.holds
    · exact h.holds i A h1
  · intro i A hA k hk
    rcases two i A hA with ⟨_, rfl⟩ | ⟨_, h1⟩
    · exact .inl (hB k hk)
    · exact h.mine i A h1 k hk
  · intro i A hA
    rcases two i A hA with ⟨_, rfl⟩ | ⟨_, h1⟩
    · exact ho.inb
    · exact h.inb i A h1
  · intro i A hA
    rcases two i A hA with ⟨_, rfl⟩ | ⟨_, h1⟩
    · exact ho.self
    · exact h.self i A h1
  · intro i j A A' hij hA hA' k hk
    rcases two i A hA with ⟨e1, rfl⟩ | ⟨e1, h1⟩
    · rcases two j A' hA' with ⟨e2, rfl⟩ | ⟨e2, h2⟩
      · exact absurd (e1.trans e2.symm) hij
      · rintro (h3 | h3)
        · exact hn j A' h2 k h3 (.inl hk)
        · exact hn2 j A' h2 k h3 hk
    · rcases two j A' hA' with ⟨e2, rfl⟩ | ⟨e2, h2⟩
      · exact hn i A h1 k hk
      · exact h.sep i j A A' hij h1 h2 k hk
/-- What is read in a list of assertions. -/
theorem rdin_nil {S : Nat → Prop} : ∀ k, RdL [] k → S k := fun k ⟨i, A, h, _⟩ => by simp [get] at h
theorem rdin_cons {S : Nat → Prop} {l : Nat} (h1 : ∀ k, X.rd k → S k) (h2 : ∀ k, RdL L k → S k) : ∀ k, RdL ((l, X) :: L) k → S k := fun k ⟨i, A, h, hk⟩ => by
  rw [get_cons] at h
  split at h
  · cases h; exact h1 k hk
  · exact h2 k ⟨i, A, h, hk⟩
theorem own_cons {S : Nat → Prop} {l : Nat} (h1 : ∀ k, X.own k → S k) (h2 : ∀ k, OwnL L k → S k) : ∀ k, OwnL ((l, X) :: L) k → S k := fun k ⟨i, A, h, hk⟩ => by
  rw [get_cons] at h
  split at h
  · cases h; exact h1 k hk
  · exact h2 k ⟨i, A, h, hk⟩
/-- A round's end: how its bundle has turned. -/
theorem grew_of {rdY : Nat → Prop} (h : Hp (OwnL L) w w' L') (hrd : ∀ k, RdL L' k → OwnL L k ∨ RdL L k ∨ rdY k ∨ w.heap.size ≤ k) : Grew (fun _ => False) rdY (Asn.all L) w w' (Asn.all L') :=
  ⟨h.mods.mono (fun k hk _ => .inl hk), h.okAll, fun k ⟨i, A, hA, hk⟩ => h.mine i A hA k hk, hrd⟩
theorem emps_nil : ∀ i A, get ([] : List (Nat × Asn)) i = some A → A = Asn.emp := fun i A h => by simp [get] at h
theorem emps_cons {N : List (Nat × Asn)} {l : Nat} (h2 : ∀ i A, get N i = some A → A = Asn.emp) : ∀ i A, get ((l, Asn.emp) :: N) i = some A → A = Asn.emp := fun i A h => by
  rw [get_cons] at h
  split at h
  · cases h; rfl
  · exact h2 i A h
/-- The labels of one list are among another's. -/
def Cover (L N : List (Nat × Asn)) : Prop := ∀ i A, get L i = some A → (get N i).isSome = true
theorem cover_nil (N : List (Nat × Asn)) : Cover [] N := fun i A h => by simp [get] at h
theorem cover_cons {N : List (Nat × Asn)} {l : Nat} (h1 : (get N l).isSome = true) (h2 : Cover L N) : Cover ((l, X) :: L) N := fun i A h => by
  rw [get_cons] at h
  split at h
  · rename_i e; subst e; exact h1
  · exact h2 i A h
/-- Behind an iterator: its caller's bundle, and what it had of its own. -/
theorem Hp.back {LB LI : List (Nat × Asn)} (h : Hp B w0 w H) (hs : ∀ i A, get LB i = some A → get H i = some A) (hI : ∀ i A, get LI i = some A → get H i = some A) {rdY : Nat → Prop} (g : Grew (OwnL LI) rdY (Asn.all LB) w w' (Asn.all L')) (hY : ∀ k, rdY k → ∃ j A, get H j = some A ∧ A.rd k)
    (N : List (Nat × Asn)) (hN : Cover LI N) (hNe : ∀ i A, get N i = some A → A = Asn.emp) (hL : Cover LB L') (hLN : ∀ i A, get N i = some A → get L' i = none) : Hp B w0 w' ((L' ++ N) ++ H) := by
  have hg : ∀ i A, get (L' ++ N) i = some A → get L' i = some A ∨ A = Asn.emp := by
    intro i A hA
    rw [get_append] at hA
    cases h1 : get L' i with
    | none => rw [h1] at hA; exact .inr (hNe i A (by simpa using hA))
    | some Y => rw [h1] at hA; exact .inl (by simpa using hA)
  have own : ∀ k, OwnL LB k → OwnedBy H (L' ++ N) k := fun k ⟨i, A, hA, hk⟩ => ⟨i, A, hs i A hA, by
    rw [get_append]
    have := hL i A hA
    cases h1 : get L' i with
    | none => rw [h1] at this; cases this
    | some Y => rfl, hk⟩
  have hw := g.ok.holds
  refine h.call g.mods (L' ++ N) (fun k hk => ?_) ?_ ?_ ?_ ?_ ?_ ?_
  · rcases hk with hk | ⟨i, A, hA, hk⟩
    · exact own k hk
    · refine ⟨i, A, hI i A hA, ?_, hk⟩
      rw [get_append]
      cases h1 : get L' i with
      | none => simpa using hN i A hA
      | some Y => rfl
  · intro i A hA
    rcases hg i A hA with h1 | rfl
    · exact hw.holds i A h1
    · trivial
  · intro i A hA k hk
    rcases hg i A hA with h1 | rfl
    · exact (g.own k ⟨i, A, h1, hk⟩).imp (own k) id
    · exact hk.elim
  · intro i A hA k hk
    rcases hg i A hA with h1 | rfl
    · rcases g.rd k ⟨i, A, h1, hk⟩ with h2 | ⟨j, A2, h2, h3⟩ | h2 | h2
      · exact .inl (own k h2)
      · exact .inr (.inl ⟨j, A2, hs j A2 h2, h3⟩)
      · exact .inr (.inl (hY k h2))
      · exact .inr (.inr h2)
    · exact hk.elim
  · intro i A hA k hk
    rcases hg i A hA with h1 | rfl
    · exact hw.inb i A h1 k hk
    · exact hk.elim (·.elim) (·.elim)
  · intro i A hA k hk
    rcases hg i A hA with h1 | rfl
    · exact hw.self i A h1 k hk
    · exact hk.elim
  · intro i j A A' hij hA hA' k hk
    rcases hg i A hA with h1 | rfl
    · rcases hg j A' hA' with h2 | rfl
      · exact hw.sep i j A A' hij h1 h2 k hk
      · rintro (h | h) <;> exact h.elim
    · exact hk.elim
end
/-! ### A call of yield -/
/-- The round that a call of yield leads to. -/
def Round (P : Program) (l : Nat) (X : Asn) (args : Array Value) (rdY : Nat → Prop) (w : World) (R : Bool → Asn → Prop) : Prop :=
  ∃ fn tmps assign body, (Instr.yield l args).run P w = .ok (.round l fn tmps assign body) w ∧
    RoundIn Fence.wide 0 P l fn tmps assign body w fun e w' => ∃ b X', e = .returned (.bool b) ∧ R b X' ∧ Grew (fun _ => False) rdY X w w' X'
section
variable {ds : List Deferred} {P : Program} {a : Act} {w w0 : World} {Q : Exit → Act → World → Prop} {o : Oper} {n d : Nat} {L : List (Nat × Value)} {ops : Array Oper} {rest : List Oper} {v : Value}
theorem li_at (hF : FrD ds n a L) (hg : o.guard = none) (hd : o.dst = some d) (hn : Nat.blt d n = true) (hno : ∀ c, o.op ≠ .defer c) (h : At P o a w v) (k : ∀ a', FrD ds n a' ((d, v) :: L) → wpListIn Fence.wide 0 P ops Q rest a' w) : wpListIn Fence.wide 0 P ops Q (o :: rest) a w :=
  wpListIn_plain hg fun K hK => oper_in (r := none) hno (w_at hF h hd hn fun a' hF' => hK _ _ (k a' hF'))
theorem li_rest (hno : ¬ LetsOut Q) (hd : rest.all noDefer = true) (h : wpList P ops Q rest a w) : wpListIn Fence.wide 0 P ops Q rest a w := list_in (r := none) hno rest hd a w h
theorem region_of_in {id : Nat} {l : List Oper} (h : wpListIn Fence.wide 0 P l.toArray Q l a w) : (Code.region id l.toArray false).wp P Q a w := wpIn_wide.1 (wpIn_region_lit h)
theorem li_yield {l : Nat} {X : Asn} {rdY : Nat → Prop} {R : Bool → Asn → Prop} {f : Operand} {xs : Array Operand} {ats : Array TypeId} {vs : Array Value} {ty : TypeId} {pos : String} {af : Array Edge} (hF : FrD ds n a L) (hn : Nat.blt d n = true) (hf : a.eval f = .func (.yield l) #[] #[]) (ha : xs.map a.eval = vs)
    (hR : Round P l X vs rdY w R) (k : ∀ a' w' b X', FrD ds n a' ((d, .bool b) :: L) → R b X' → Grew (fun _ => False) rdY X w w' X' → wpListIn Fence.wide 0 P ops Q rest a' w') :
    wpListIn Fence.wide 0 P ops Q (⟨some d, .call ⟨.value f, xs, ats⟩, ty, pos, af, none⟩ :: rest) a w := by
  obtain ⟨fn, tmps, assign, body, hy, hr⟩ := hR
  refine wpListIn_plain rfl fun K hK => ⟨fun _ _ => trivial, ?_⟩
  rw [Oper.semAt_eq _ _ _ (by intro c hc; cases hc)]
  have e : (execOp a.eval ⟨some d, .call ⟨.value f, xs, ats⟩, ty, pos, af, none⟩).run P w = .ok (.round l fn tmps assign body) w := by
    subst ha
    generalize a.eval = ρ at *
    simp [execOp, resolve, Deferred.ofValue, hf, invoke, hy, go_sem]
  rw [e, Oper.uponIn_round]
  refine ⟨fun h => (by cases h), RoundIn.mono hr ?_⟩
  rintro e w' ⟨b, X', rfl, h1, h2⟩
  exact hK _ _ (k _ _ b X' (hF.put d _ hn) h1 h2)
end
/-! ### The statement, its rounds, its end -/
theorem no_then {K : Act → World → Prop} {Q : Exit → Act → World → Prop} (h : ¬ LetsOut Q) : ¬ LetsOut (Exit.then K Q) := fun ⟨a, w, hq⟩ => h ⟨a, w, hq⟩
theorem no_block {id : Nat} {Q : Exit → Act → World → Prop} (h : ¬ LetsOut Q) : ¬ LetsOut (Exit.inBlock id Q) := fun ⟨a, w, hq⟩ => h ⟨a, w, hq⟩
theorem no_round {P : Program} {l : Nat} {R : Ending → World → Prop} : ¬ LetsOut (roundPost P l R) := fun ⟨_, _, h⟩ => h
theorem no_false : ¬ LetsOut (fun _ _ _ => False) := fun ⟨_, _, h⟩ => h
theorem Mods.putObj (w : World) (r : Nat) (o : Obj) : Mods (fun k => k = r) w (w.putObj r o) := ⟨rfl, rfl, rfl, by simp, fun k _ hn => World.putObj_heap_other hn⟩
section
variable {B : Nat → Prop} {w0 w w' : World} {H : List (Nat × Asn)} {P : Program} {a : Act} {n : Nat} {L : List (Nat × Value)} {Q : Exit → Act → World → Prop} {fn : Func} {R : Ending → World → Prop}
theorem Hp.loop (h : Hp B w0 w H) (ll : Nat) {l : Nat} {r : Loop} (hl : get H ll = some (.blk l (.loop r))) (r' : Loop) : Hp B w0 (w.putObj l (.loop r')) ((ll, .blk l (.loop r')) :: H) :=
  h.put ll hl _ (Mods.putObj w l _) (World.putObj_heap_same (h.inb ll _ hl l (.inl rfl)))
/-- A call, by its body's walk, where the body holds a range over a function. -/
theorem calls_marks {f : FuncId} {c : Code} {args : Array Value} (hf : P.funcs[f]? = some fn) (hb : fn.body = some c)
    (h : c.wp P (bodyPostM Fence.wide 0 P fn R) { tmps := args ++ Array.replicate (fn.ntmps - args.size) undef, defers := [] } w) : Calls P f args w R :=
  (callsIn_wide (n := 0)).1 (callsIn_of_wp_marks hf hb trivial (wpIn_wide.2 h))
/-- Such a function's end ahead of its loop. -/
theorem fin_retM (hF : Fr n a L) {v : Value} (h : (results fn a.tmps).run P w = .ok v w) (hR : R (.returned v) w) : bodyPostM Fence.wide 0 P fn R .ret a w := by
  show LeavesInM _ _ _ _ _ _ a.defers _ _
  rw [hF.defers]
  exact ⟨v, h, hR⟩
/-- And behind it. -/
theorem fin_retD {bm : Nat} (hF : FrD [{ target := .collected bm, args := #[] }] n a L) (hH : Hp B w0 w H) (lm : Nat) (hl : get H lm = some (.blk bm (.deferred (some [])))) {v : Value}
    (k : ∀ w', Hp B w0 w' ((lm, .blk bm (.deferred none)) :: H) → (results fn a.tmps).run P w' = .ok v w' ∧ R (.returned v) w') : bodyPostM Fence.wide 0 P fn R .ret a w := by
  show LeavesInM _ _ _ _ _ _ a.defers _ _
  rw [hF.defers]
  refine ⟨(by intro h; cases h), .inl ⟨bm, _, rfl, run_takeDeferred (hH.at lm hl), ?_⟩⟩
  have hh := hH.put lm hl (.deferred none) (Mods.putObj w bm _) (World.putObj_heap_same (hH.inb lm _ hl bm (.inl rfl)))
  exact ⟨v, (k _ hh).1, (k _ hh).2⟩
theorem res2c {ds : List Deferred} (hF : FrD ds n a L) {t t' : Nat} {ty ty' : TypeId} {ad ad' : Addr} {z z' v u : Value} {k k' by' by2 : Nat} (hr : fn.results = #[.cell t ty, .cell t' ty']) (hv : get L t = some (.pointer (some ad))) (hv' : get L t' = some (.pointer (some ad'))) (hc : w.cell? ad = some v) (hc' : w.cell? ad' = some u)
    (h : TyI P ty z k by' false) (h' : TyI P ty' z' k' by2 false) : (results fn a.tmps).run P w = .ok (.tuple #[v, u]) w := by
  have h3 : a.tmps[t]?.getD undef = .pointer (some ad) := by simpa using hF.getD t hv
  have h4 : a.tmps[t']?.getD undef = .pointer (some ad') := by simpa using hF.getD t' hv'
  simp only [results, hr]
  simp [h3, h4, asAddr, loadVar, go_sem, h.isAgg, h'.isAgg, hc, hc']
/-- A loop's record, ready. -/
structure LoopOf (r : Loop) (tmps : Array Value) (p : Tmp) (assign body : Code) : Prop where
  state : r.state = .ready
  pending : r.pending = none
  tmps : r.tmps = tmps
  params : r.params = #[p]
  assign : r.assign = assign
  body : r.body = body
/-- The statement: the loop's record and the mark's block are laid, and the iterator is called. -/
theorem wp_range {g : Operand} {p : Tmp} {assign body : Code} {f : FuncId} {ff : Func} {caps : Array Value} (hF : Fr n a L) (hH : Hp B w0 w H) (ll lm : Nat) (hg : a.eval g = .func (.func f) #[] caps)
    (hf : P.funcs[f]? = some ff) (hn : (ff.name == "runtime.NumGoroutine") = false) (hb : ff.body.isNone = false)
    (k : ∀ r l bm w1, LoopOf r a.tmps p assign body → Hp B w0 w1 ((ll, .blk l (.loop r)) :: (lm, .blk bm (.deferred (some []))) :: H) →
      Calls P f (#[.func (.yield l) #[] #[]] ++ caps) w1 (rangePost Fence.wide 0 P l Q { a with defers := [{ target := .collected bm, args := #[] }] })) :
    (Code.rangeFunc g #[p] assign body).wp P Q a w := by
  refine wpIn_wide.1 (wpIn_rangeFunc (n := 0) fun fid _ => ?_)
  have h1 := (hH.new lm (.deferred (some [])))
  have h2 := h1.new ll (.loop { state := .ready, pending := none, fn := fid, tmps := a.tmps, params := #[p], assign, body, defers := w.heap.size })
  have hc := k _ _ _ _ ⟨rfl, rfl, rfl, rfl, rfl, rfl⟩ h2
  have hn' : ¬ ff.name = "runtime.NumGoroutine" := by simpa using hn
  have hb' : ¬ ff.body = Option.none := by intro h; rw [h] at hb; simp at hb
  refine ⟨_, _, _, { target := .fn (.func f) caps, args := #[.func (.yield (w.heap.size + 1)) #[] #[]] }, ((w.alloc (.deferred (some []))).alloc (.loop { state := .ready, pending := none, fn := fid, tmps := a.tmps, params := #[p], assign := assign, body := body, defers := w.heap.size })), f, #[.func (.yield (w.heap.size + 1)) #[] #[]] ++ caps, ((w.alloc (.deferred (some []))).alloc (.loop { state := .ready, pending := none, fn := fid, tmps := a.tmps, params := #[p], assign := assign, body := body, defers := w.heap.size })), run_enterLoop_outer fid a.tmps #[p] assign body, ?_, fun _ _ => trivial, ?_, fun h => (by cases h), ?_⟩
  · have hy : a.eval (.const (.func (.yield (w.heap.size + 1)) #[] #[])) = .func (.yield (w.heap.size + 1)) #[] #[] := rfl
    generalize a.eval = ρ at *
    simp [rangeCall, resolve, Deferred.ofValue, hg, hy, go_sem]
  · simp [invoke, callFunc, hf, hn', hb', go_sem]
  · refine calls_in (r := none) ?_
    rw [hF.defers, List.append_nil]
    simpa using hc
/-- The iterator has returned: the loop's record is shut; nothing is pending. -/
theorem range_next (hH : Hp B w0 w H) (ll : Nat) {l : Nat} {r : Loop} (hl : get H ll = some (.blk l (.loop r))) (hb : r.state ≠ .busy) (hp : r.pending = none) {v : Value} {a' : Act}
    (k : ∀ w4, Hp B w0 w4 ((ll, .blk l (.loop { r with state := .exhausted })) :: H) → Q .normal a' w4) : rangePost Fence.wide 0 P l Q a' (.returned v) w := by
  obtain ⟨st, pe, fid, tm, ps, as_, bo, bm⟩ := r
  cases hp
  exact ⟨_, _, run_endLoop (hH.at ll hl) hb, k _ (hH.loop ll hl _)⟩
/-- Something is pending. -/
theorem range_jump (hH : Hp B w0 w H) (ll : Nat) {l : Nat} {r : Loop} (hl : get H ll = some (.blk l (.loop r))) (hb : r.state ≠ .busy) {c : Code} (hp : r.pending = some c) {v : Value} {a' : Act}
    (k : ∀ w4, Hp B w0 w4 ((ll, .blk l (.loop { r with state := .exhausted })) :: H) → c.wp P Q a' w4) : rangePost Fence.wide 0 P l Q a' (.returned v) w := by
  obtain ⟨st, pe, fid, tm, ps, as_, bo, bm⟩ := r
  cases hp
  exact ⟨_, _, run_endLoop (hH.at ll hl) hb, wpIn_wide.2 (k _ (hH.loop ll hl _))⟩
theorem FrD.defer {ds : List Deferred} (hF : FrD ds n a L) (ds' : List Deferred) : FrD ds' n { a with defers := ds' } L := ⟨hF.size, rfl, hF.at_⟩
theorem FrD.round {ds : List Deferred} (hF : FrD ds n a L) (p : Nat) (v : Value) (hp : Nat.blt p n = true) : Fr n { tmps := a.tmps.setIfInBounds p v, defers := [] } ((p, v) :: L) := by
  have h := hF.put p v hp
  exact ⟨h.size, rfl, h.at_⟩
/-- One round. -/
theorem round_walk {Lb : List (Nat × Asn)} {ll l : Nat} {r : Loop} {tmps : Array Value} {p : Tmp} {assign body : Code} {x : Value} {rdY : Nat → Prop} {R : Bool → Asn → Prop} (hX : (Asn.all Lb).holds w)
    (hl : get Lb ll = some (.blk l (.loop r))) (hr : LoopOf r tmps p assign body)
    (h : assign.wpIn (RF (some l)) 0 P (Exit.then (fun a₁ w₁ => ∃ w₂, (Instr.beginRound l).run P w₁ = .ok () w₂ ∧ body.wpIn (RF (some l)) 0 P (roundPost P l (fun e w' => ∃ b X', e = .returned (.bool b) ∧ R b X' ∧ Grew (fun _ => False) rdY (Asn.all Lb) w w' X')) a₁ w₂) (fun _ _ _ => False)) { tmps := tmps.setIfInBounds p x, defers := [] } w) :
    Round P l (Asn.all Lb) #[x] rdY w R := by
  obtain ⟨st, pe, fid, tm, ps, as_, bo, bm⟩ := r
  obtain ⟨rfl, rfl, rfl, rfl, rfl, rfl⟩ := hr
  have hh := hX.at ll hl
  refine ⟨_, _, _, _, run_yield hh rfl, ?_⟩
  have e : ((#[p] : Array Tmp).zip #[x]).foldl (fun tmps (t, a) => tmps.setIfInBounds t a) tm = tm.setIfInBounds p x := by simp
  refine roundIn_of_wpIn (F := Fence.wide) (n := 0) trivial ?_
  dsimp only
  rw [e]
  exact h
theorem begin_round {r : Loop} {l : Nat} {body : Code} (hH : Hp B w0 w H) (ll : Nat) (hl : get H ll = some (.blk l (.loop r))) (hr : r.state = .ready) (k : ∀ w2, Hp B w0 w2 ((ll, .blk l (.loop { r with state := .busy })) :: H) → body.wpIn (RF (some l)) 0 P Q a w2) :
    ∃ w₂, (Instr.beginRound l).run P w = .ok () w₂ ∧ body.wpIn (RF (some l)) 0 P Q a w₂ :=
  ⟨_, run_beginRound (hH.at ll hl) hr, k _ (hH.loop ll hl _)⟩
theorem end_next {r : Loop} {l : Nat} {tmps : Array Value} {p : Tmp} {assign body : Code} (hH : Hp B w0 w H) (ll : Nat) (hl : get H ll = some (.blk l (.loop { r with state := .busy }))) (hr : LoopOf r tmps p assign body) (k : ∀ w2, Hp B w0 w2 ((ll, .blk l (.loop r)) :: H) → R (.returned (.bool true)) w2) :
    roundPost P l R .normal a w := by
  obtain ⟨st, pe, fid, tm, ps, as_, bo, bm⟩ := r
  obtain ⟨rfl, rfl, rfl, rfl, rfl, rfl⟩ := hr
  exact ⟨_, _, run_endRound none (hH.at ll hl), k _ (hH.loop ll hl _)⟩
theorem end_jump {r : Loop} {l : Nat} (hH : Hp B w0 w H) (ll : Nat) (hl : get H ll = some (.blk l (.loop { r with state := .busy }))) (k : ∀ w2, Hp B w0 w2 ((ll, .blk l (.loop { r with state := .done, pending := some .ret })) :: H) → R (.returned (.bool false)) w2) :
    roundPost P l R .ret a w :=
  ⟨_, _, run_endRound (some .ret) (hH.at ll hl), k _ (hH.loop ll hl _)⟩
theorem end_exit {r : Loop} {l : Nat} (hH : Hp B w0 w H) (ll : Nat) (hl : get H ll = some (.blk l (.loop { r with state := .busy }))) {id : Nat} (k : ∀ w2, Hp B w0 w2 ((ll, .blk l (.loop { r with state := .done, pending := some (.exit id) })) :: H) → R (.returned (.bool false)) w2) :
    roundPost P l R (.exit id) a w :=
  ⟨_, _, run_endRound (some (.exit id)) (hH.at ll hl), k _ (hH.loop ll hl _)⟩
end
/-! ### Iterators -/
/-- An iterator: it tells some xs of S, whoever ranges over it; LI: what it has and reads of its own; rdO: what of elder blocks is read of what it tells. -/
def Iterates {α : Type} (P : Program) (f : FuncId) (caps : Array Value) (Enc : World → α → Array Value → (Nat → Prop) → Prop) (LI : List (Nat × Asn)) (rdO : Nat → Prop) (S : List α → Prop) (w : World) : Prop :=
  ∀ (l : Nat) (JP DN : List α → Asn → Prop) (X : Asn), X.ok w → (∀ k, OwnL LI k → ¬ (X.own k ∨ X.rd k)) → (∀ k, RdL LI k → ¬ X.own k) →
    (∀ pre x Xx w1 args rdY, (∃ xs, S xs ∧ pre ++ [x] <+: xs) → JP pre Xx → Xx.ok w1 → Enc w1 x args rdY → (∀ k, rdY k → k < w1.heap.size ∧ ¬ Xx.own k) → Round P l Xx args rdY w1 (fun b X' => if b then JP (pre ++ [x]) X' else DN (pre ++ [x]) X')) →
    JP [] X →
    Calls P f (#[.func (.yield l) #[] #[]] ++ caps) w fun e w' => ∃ v X' xs, e = .returned v ∧ S xs ∧ (JP xs X' ∨ ∃ pre, pre <+: xs ∧ DN pre X') ∧ Grew (OwnL LI) rdO X w w' X'
section
variable {B C : Nat → Prop} {w0 w w' : World} {H LI : List (Nat × Asn)} {X X' A : Asn}
theorem Hp.wider (h : Hp B w0 w H) (hB : ∀ k, B k → C k) : Hp C w0 w H := ⟨h.mods.mono (fun k hk _ => hB k hk), h.holds, fun i A hA k hk => (h.mine i A hA k hk).imp (hB k) id, h.inb, h.self, h.sep⟩
theorem it_start (hLI : (Asn.all LI).holds w) (hX : X.ok w) (h1 : ∀ k, OwnL LI k → ¬ (X.own k ∨ X.rd k)) (h2 : ∀ k, RdL LI k → ¬ X.own k) (l : Nat) : Hp (fun k => X.own k ∨ OwnL LI k) w w ((l, X) :: LI) :=
  ((Hp.ofAll hLI).wider fun k hk => .inr hk).takes (bs := fun _ => False) l (fun j A hA k hk => h1 k ⟨j, A, hA, hk⟩) (fun j A hA k hk => h2 k ⟨j, A, hA, hk⟩) (fun k hk => .inl hk) hX
theorem it_own (h : Hp (fun k => X.own k ∨ OwnL LI k) w0 w H) (l : Nat) (hl : get H l = some A) (hI : ∀ k, OwnL LI k → ¬ A.own k) : ∀ k, A.own k → X.own k ∨ w0.heap.size ≤ k := fun k hk => by
  rcases h.mine l A hl k hk with (h1 | h1) | h1
  · exact .inl h1
  · exact absurd hk (hI k h1)
  · exact .inr h1
theorem it_ok (h : Hp B w0 w H) (l : Nat) (hl : get H l = some A) : A.ok w := ⟨h.holds l A hl, h.inb l A hl, h.self l A hl⟩
theorem grew_it (h : Hp (fun k => X.own k ∨ OwnL LI k) w0 w H) (l : Nat) (hl : get H l = some X') (hI : ∀ k, OwnL LI k → ¬ X'.own k) {rdO : Nat → Prop} (hrd : ∀ k, X'.rd k → X.own k ∨ X.rd k ∨ rdO k ∨ w0.heap.size ≤ k) : Grew (OwnL LI) rdO X w0 w X' :=
  ⟨h.mods, it_ok h l hl, it_own h l hl hI, hrd⟩
/-- The blocks of two lists that have no label in common are apart. -/
def Apart (L N : List (Nat × Asn)) : Prop := ∀ i A, get L i = some A → get N i = none
theorem apart_nil (N : List (Nat × Asn)) : Apart [] N := fun i A h => by simp [get] at h
theorem apart_cons {L N : List (Nat × Asn)} {l : Nat} (h1 : get N l = none) (h2 : Apart L N) : Apart ((l, X) :: L) N := fun i A h => by
  rw [get_cons] at h
  split at h
  · rename_i e; subst e; exact h1
  · exact h2 i A h
theorem Hp.apart {L N : List (Nat × Asn)} (h : Hp B w0 w H) (hL : ∀ i A, get L i = some A → get H i = some A) (hN : ∀ i A, get N i = some A → get H i = some A) (ha : Apart L N) : ∀ k, OwnL L k → ¬ (OwnL N k ∨ RdL N k) := by
  rintro k ⟨i, A, hA, hk⟩ (⟨j, A', hA', hk'⟩ | ⟨j, A', hA', hk'⟩)
  · exact h.sep i j A A' (fun e => by subst e; rw [ha i A hA] at hA'; cases hA') (hL i A hA) (hN j A' hA') k hk (.inl hk')
  · exact h.sep i j A A' (fun e => by subst e; rw [ha i A hA] at hA'; cases hA') (hL i A hA) (hN j A' hA') k hk (.inr hk')
theorem Hp.newBlk (h : Hp B w0 w H) (l : Nat) {b : Nat} {o : Obj} (hm : Mods (fun _ => False) w w') (hb : w.heap.size ≤ b) (hc : w'.heap[b]? = some o) : Hp B w0 w' ((l, .blk b o) :: H) :=
  h.one hm l _ (fun k hk => hk.elim) hc (fun k hk => .inr (by rw [show k = b from hk]; exact hb)) (fun k hk => hk.elim)
    (fun k hk => by rcases hk with hk | hk; (· rw [show k = b from hk]; exact (Array.getElem?_eq_some_iff.1 hc).1); (· exact hk.elim)) (fun k _ hk => hk)
/-- A row that is new, and all that it leads to. -/
def RowNew {α : Type} (E : Rep α) (T : TypeId) (w0 w' : World) (v : Value) (xs : List α) : Prop := ∃ ok, Row E T w' ok v xs ∧ (∀ k, v.ownBlock = some k → w0.heap.size ≤ k) ∧ ∀ k, ok k → w0.heap.size ≤ k ∧ k < w'.heap.size ∧ v.ownBlock ≠ some k
theorem RowNew.nil {α : Type} (E : Rep α) (T : TypeId) (w0 w' : World) : RowNew E T w0 w' (.slice none 0 0) [] := ⟨fun _ => False, Row.nil _ _ _ _, fun k hk => (by cases hk), fun k hk => hk.elim⟩
theorem Hp.outNew {α : Type} {E : Rep α} {T : TypeId} {v : Value} {xs : List α} {ok : Nat → Prop} (h : Hp (fun _ => False) w0 w H) (l : Nat) (hl : get H l = some (.row E T v xs ok)) (hok : ∀ k, ok k → w0.heap.size ≤ k) : RowNew E T w0 w v xs :=
  ⟨ok, h.row l hl, fun k hk => (h.mine l _ hl k hk).resolve_left id, fun k hk => ⟨hok k hk, h.inb l _ hl k (.inr hk), fun h2 => h.self l _ hl k h2 hk⟩⟩
theorem own_nil {S : Nat → Prop} : ∀ k, OwnL [] k → S k := fun k ⟨i, A, h, _⟩ => by simp [get] at h
theorem Hp.rdnil {α : Type} (h : Hp B w0 w H) (l : Nat) (E : Rep α) : Hp B w0 w ((l, .rd_ E Option.none [] 0 (fun _ => False)) :: H) :=
  h.readable l (Rd.nil _ _ _) (fun k hk => hk.elim) (fun i A' hA k hk h => h)
end
section
variable {α : Type} {E : Rep α} {B : Nat → Prop} {w0 w : World} {H L : List (Nat × Asn)} {A : Option Addr} {xs : List α} {c : Nat}
/-- What is read within some labels' things. -/
theorem Hp.subAll (h : Hp B w0 w H) (l : Nat) (hs : ∀ i A, get L i = some A → get H i = some A) (hr : Rd E w (RdL L) A xs c) : Hp B w0 w ((l, .rd_ E A xs c (RdL L)) :: H) :=
  h.readable l hr (fun k ⟨i, A, hA, hk⟩ => h.inb i A (hs i A hA) k (.inr hk)) (fun j Y hY k hk ⟨i, A, hA, hk2⟩ => by
    by_cases e : j = i
    · subst e; rw [hs j A hA] at hY; cases hY; exact h.self j _ (hs j _ hA) k hk hk2
    · exact h.sep j i Y A e hY (hs i A hA) k hk (.inr hk2))
end
section
variable {α : Type} {E : Rep α} {B : Nat → Prop} {w0 w w' : World} {H L : List (Nat × Asn)} {T : TypeId} {v : Value} {xs ys : List α} {ok : Nat → Prop}
/-- What is only read stands by itself. -/
theorem Hp.still (h : Hp B w0 w L) (hno : ∀ k, OwnL L k → False) : Hp (fun _ => False) w w L :=
  ⟨Mods.refl _ _, h.holds, fun i A hA k hk => (hno k ⟨i, A, hA, hk⟩).elim, h.inb, h.self, h.sep⟩
/-- A row of one's own holds another list. -/
theorem Hp.rowTurn (h : Hp B w0 w H) (l : Nat) (hl : get H l = some (.row E T v xs ok)) (hm : Mods (fun k => v.ownBlock = some k) w w') (hr : Row E T w' (fun _ => False) v ys) : Hp B w0 w' ((l, .row E T v ys (fun _ => False)) :: H) :=
  h.one hm l _ (fun k hk => ⟨_, hl, hk⟩) hr (fun k hk => .inl ⟨_, hl, hk⟩) (fun k hk => hk.elim) (fun k hk => hk.elim (fun h1 => hr.lt k h1) (fun h => h.elim)) (fun k _ hk => hk)
end
section
variable {B : Nat → Prop} {w0 w w' : World} {H L : List (Nat × Asn)}
def shiftL (s : Nat) (L : List (Nat × Asn)) : List (Nat × Asn) := L.map fun p => (p.1 + s, p.2)
theorem get_shift (s : Nat) : ∀ {L : List (Nat × Asn)} {i : Nat} {A : Asn}, get (shiftL s L) i = some A → ∃ j, i = j + s ∧ get L j = some A
  | [], i, A, h => by simp [shiftL, get] at h
  | (l, X) :: L, i, A, h => by
    have h' : get ((l + s, X) :: shiftL s L) i = some A := h
    rw [get_cons] at h'
    split at h'
    · rename_i e
      cases h'
      exact ⟨l, e.symm, by rw [get_cons, if_pos rfl]⟩
    · rename_i e
      obtain ⟨j, rfl, hj⟩ := get_shift s h'
      exact ⟨j, rfl, by rw [get_cons, if_neg (fun e2 => e (by rw [e2]))]; exact hj⟩
/-- The labels under other numbers. -/
theorem Hp.shift (h : Hp B w0 w L) (s : Nat) : Hp B w0 w (shiftL s L) := by
  refine ⟨h.mods, fun i A hA => ?_, fun i A hA => ?_, fun i A hA => ?_, fun i A hA => ?_, fun i j A A' hij hA hA' => ?_⟩
  · obtain ⟨j, rfl, hj⟩ := get_shift s hA; exact h.holds j A hj
  · obtain ⟨j, rfl, hj⟩ := get_shift s hA; exact h.mine j A hj
  · obtain ⟨j, rfl, hj⟩ := get_shift s hA; exact h.inb j A hj
  · obtain ⟨j, rfl, hj⟩ := get_shift s hA; exact h.self j A hj
  · obtain ⟨i', rfl, hi⟩ := get_shift s hA
    obtain ⟨j', rfl, hj⟩ := get_shift s hA'
    exact h.sep i' j' A A' (fun e => hij (by rw [e])) hi hj
/-- What a call has laid stands beside what stood. -/
theorem Hp.merge (h : Hp B w0 w H) (hm : Mods (fun _ => False) w w') (hL : Hp (fun _ => False) w w' L) (hrd : ∀ k, RdL L k → w.heap.size ≤ k) : Hp B w0 w' (L ++ H) :=
  h.call hm L (fun k hk => hk.elim) hL.holds (fun i A hA k hk => .inr ((hL.mine i A hA k hk).resolve_left id)) (fun i A hA k hk => .inr (.inr (hrd k ⟨i, A, hA, hk⟩))) hL.inb hL.self hL.sep
/-- .. and by itself, as what is new. -/
theorem hp_of_new {L : List (Nat × Asn)} (hok : (Asn.all L).ok w') (hm : Mods (fun _ => False) w w') (hn : ∀ k, OwnL L k → w.heap.size ≤ k) : Hp (fun _ => False) w w' L :=
  ⟨hm, hok.holds.holds, fun i A hA k hk => .inr (hn k ⟨i, A, hA, hk⟩), hok.holds.inb, hok.holds.self, hok.holds.sep⟩
end
section
variable {B : Nat → Prop} {w0 w w' : World} {L : List (Nat × Asn)} {X : Asn}
theorem get_unshift (s : Nat) : ∀ {L : List (Nat × Asn)} {i : Nat} {A : Asn}, get L i = some A → get (shiftL s L) (i + s) = some A
  | [], i, A, h => by simp [get] at h
  | (l, X) :: L, i, A, h => by
    show get ((l + s, X) :: shiftL s L) (i + s) = some A
    rw [get_cons] at h ⊢
    split at h
    · rename_i e; rw [if_pos (by rw [e])]; exact h
    · rename_i e; rw [if_neg (by omega)]; exact get_unshift s h
/-- The labels under lesser numbers. -/
theorem Hp.unshift (s : Nat) (h : Hp B w0 w (shiftL s L)) : Hp B w0 w L :=
  ⟨h.mods, fun i A hA => h.holds _ A (get_unshift s hA), fun i A hA => h.mine _ A (get_unshift s hA), fun i A hA => h.inb _ A (get_unshift s hA), fun i A hA => h.self _ A (get_unshift s hA), fun i j A A' hij hA hA' => h.sep _ _ A A' (by omega) (get_unshift s hA) (get_unshift s hA')⟩
theorem Asn.ok.same (h : X.ok w) (hm : Mods (fun _ => False) w w') : X.ok w' :=
  ⟨X.stable (fun k hk => hm.block k (h.inb k hk) (fun h => h)) h.holds, fun k hk => Nat.lt_of_lt_of_le (h.inb k hk) hm.size, h.self⟩
end
section
variable {B : Nat → Prop} {w0 w w' : World} {H : List (Nat × Asn)} {X : Asn}
/-- A new thing. -/
theorem Hp.newX (h : Hp B w0 w H) (l : Nat) (hm : Mods (fun _ => False) w w') (hok : X.ok w') (hn : ∀ k, X.own k → w.heap.size ≤ k) (hr : ∀ k, X.rd k → w.heap.size ≤ k) : Hp B w0 w' ((l, X) :: H) :=
  h.one hm l X (fun k hk => hk.elim) hok.holds (fun k hk => .inr (hn k hk)) (fun k hk => .inr (.inr (hr k hk))) hok.inb hok.self
end
end Go.Proofs.Ytlcnoibjhmflnaa.Sx
