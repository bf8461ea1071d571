/- The iterator over a trie's entries: a region in any order with a call of yield; what is told. -/
import Derived.Test.YtlcnoibjhmflnaaTrB
import Derived.Test.YtlcnoibjhmflnaaSrt
import Derived.OrdersIn
set_option linter.unusedVariables false
set_option linter.unusedSimpArgs false
namespace Go.Proofs.Ytlcnoibjhmflnaa.Sx
open Go.RowKit Go.Sort
def EncE (w : World) (x : Ent) (args : Array Value) (rdY : Nat → Prop) : Prop := args = #[.agg #[.string (strOfNums x.1), .string (strOfNums x.2)]] ∧ ∀ k, rdY k → False
section
variable {ds : List Deferred} {P : Program} {a : Act} {w w0 : World} {Q : Exit → Act → World → Prop} {K : Act → World → Prop} {oi : Oper} {n d : Nat} {L : List (Nat × Value)} {ops : Array Oper} {v : Value} {fuel : Nat} {listed : Array Bool}
theorem any_named (h : ∀ W : Nat → Array Bool → Act → World → Prop, (∀ f l a w, W f l a w = wpAnyIn Fence.wide 0 P .any ops Q f l a w) → W fuel listed a w) : wpAnyIn Fence.wide 0 P .any ops Q fuel listed a w := h _ (fun _ _ _ _ => rfl)
theorem region_anyI {id : Nat} {B : Nat → Prop} {H : List (Nat × Asn)} (hm : P.follows .mixedOrders = true) (hH : Hp B w0 w H) (h : ∀ w1, Hp B w0 w1 H → wpAnyIn Fence.wide 0 P .any ops Q ops.size (Array.replicate ops.size false) a w1) : (Code.region id ops true).wp P Q a w :=
  wpIn_wide.1 (wpIn_region_any hm (h _ hH.drew))
theorem rI_ready {rs : List Nat} (hr : Region.ready .any ops listed = rs) (hne : rs ≠ []) (h : ∀ i ∈ rs, wpOpIn Fence.wide 0 P ops Q i (fun a w => wpAnyIn Fence.wide 0 P .any ops Q fuel (listed.setIfInBounds i true) a w) a w) : wpAnyIn Fence.wide 0 P .any ops Q (fuel + 1) listed a w := wpAnyIn_all hr hne h
theorem rI_done (hr : Region.ready .any ops listed = []) (h : Q .normal a w) : wpAnyIn Fence.wide 0 P .any ops Q fuel listed a w := wpAnyIn_done hr h fuel
theorem all1 {p : Nat → Prop} {i : Nat} (h : p i) : ∀ q ∈ [i], p q := fun q hq => by rw [List.mem_singleton] at hq; subst hq; exact h
theorem all2 {p : Nat → Prop} {i j : Nat} (h : p i) (h' : p j) : ∀ q ∈ [i, j], p q := fun q hq => by simp only [List.mem_cons, List.not_mem_nil, or_false] at hq; rcases hq with rfl | rfl; exact h; exact h'
theorem all3 {p : Nat → Prop} {i j k : Nat} (h : p i) (h' : p j) (h'' : p k) : ∀ q ∈ [i, j, k], p q := fun q hq => by simp only [List.mem_cons, List.not_mem_nil, or_false] at hq; rcases hq with rfl | rfl | rfl; exact h; exact h'; exact h''
theorem rI_op (i : Nat) (hF : FrD ds n a L) (hi : ops[i]? = some oi) (hd : oi.dst = some d) (hn : Nat.blt d n = true) (hw : Region.wanted oi (yielded ops a.tmps) = true) (hno : noDefer oi = true) (hx : At P oi a w v) (k : ∀ a', FrD ds n a' ((d, v) :: L) → K a' w) : wpOpIn Fence.wide 0 P ops Q i K a w := by
  refine wpOpIn_step hi fun K' hK => ?_
  rw [if_pos hw]
  exact oper_in (r := none) (noDefer_ne hno) (w_at hF hx hd hn fun a' hF' => hK _ _ (k a' hF'))
theorem rI_yield (i : Nat) {l : Nat} {X : Asn} {rdY : Nat → Prop} {R : Bool → Asn → Prop} {f : Operand} {xs : Array Operand} {ats : Array TypeId} {vs : Array Value} {ty : TypeId} {pos : String} {af : Array Edge} {gg : Option (Nat × Bool)} (hF : FrD ds n a L)
    (hi : ops[i]? = some ⟨some d, .call ⟨.value f, xs, ats⟩, ty, pos, af, gg⟩) (hn : Nat.blt d n = true) (hw : Region.wanted ⟨some d, .call ⟨.value f, xs, ats⟩, ty, pos, af, gg⟩ (yielded ops a.tmps) = true) (hf : a.eval f = .func (.yield l) #[] #[]) (ha : xs.map a.eval = vs)
    (hR : Round P l X vs rdY w R) (k : ∀ a' w' b X', FrD ds n a' ((d, .bool b) :: L) → R b X' → Grew (fun _ => False) rdY X w w' X' → K a' w') : wpOpIn Fence.wide 0 P ops Q i K a w := by
  obtain ⟨fn, tmps, assign, body, hy, hr⟩ := hR
  refine wpOpIn_step hi fun K' hK => ?_
  rw [if_pos hw]
  refine ⟨fun _ _ => trivial, ?_⟩
  rw [Oper.semAt_eq _ _ _ (by intro c hc; cases hc)]
  have e : (execOp a.eval ⟨some d, .call ⟨.value f, xs, ats⟩, ty, pos, af, gg⟩).run P w = .ok (.round l fn tmps assign body) w := by
    subst ha
    generalize a.eval = ρ at *
    simp [execOp, resolve, Deferred.ofValue, hf, invoke, hy, go_sem]
  rw [e, Oper.uponIn_round]
  refine ⟨fun h => (by cases h), RoundIn.mono hr ?_⟩
  rintro e w' ⟨b, X', rfl, h1, h2⟩
  exact hK _ _ (k _ _ b X' (hF.put d _ hn) h1 h2)
/-- A call of yield in another loop's round. -/
theorem li_yieldR {r : Option Nat} {rest : List Oper} {l : Nat} {X : Asn} {rdY : Nat → Prop} {R : Bool → Asn → Prop} {f : Operand} {xs : Array Operand} {ats : Array TypeId} {vs : Array Value} {ty : TypeId} {pos : String} {af : Array Edge} (hF : FrD ds n a L) (hn : Nat.blt d n = true) (hf : a.eval f = .func (.yield l) #[] #[]) (ha : xs.map a.eval = vs)
    (hR : Round P l X vs rdY w R) (k : ∀ a' w' b X', FrD ds n a' ((d, .bool b) :: L) → R b X' → Grew (fun _ => False) rdY X w w' X' → wpListIn (RF r) 0 P ops Q rest a' w') :
    wpListIn (RF r) 0 P ops Q (⟨some d, .call ⟨.value f, xs, ats⟩, ty, pos, af, none⟩ :: rest) a w := by
  obtain ⟨fn, tmps, assign, body, hy, hr⟩ := hR
  refine wpListIn_plain rfl fun K hK => ⟨fun _ _ => trivial, ?_⟩
  rw [Oper.semAt_eq _ _ _ (by intro c hc; cases hc)]
  have e : (execOp a.eval ⟨some d, .call ⟨.value f, xs, ats⟩, ty, pos, af, none⟩).run P w = .ok (.round l fn tmps assign body) w := by
    subst ha
    generalize a.eval = ρ at *
    simp [execOp, resolve, Deferred.ofValue, hf, invoke, hy, go_sem]
  rw [e, Oper.uponIn_round]
  have hr' : RoundIn (RF r) 0 P l fn tmps assign body w fun e w' => ∃ b X', e = .returned (.bool b) ∧ R b X' ∧ Grew (fun _ => False) rdY X w w' X' := hr
  refine ⟨fun h => (by cases h), RoundIn.mono hr' ?_⟩
  rintro e w' ⟨b, X', rfl, h1, h2⟩
  exact hK _ _ (k _ _ b X' (hF.put d _ hn) h1 h2)
theorem li_atR {r : Option Nat} {rest : List Oper} {o : Oper} (hF : FrD ds n a L) (hg : o.guard = none) (hd : o.dst = some d) (hn : Nat.blt d n = true) (hno : noDefer o = true) (h : At P o a w v) (k : ∀ a', FrD ds n a' ((d, v) :: L) → wpListIn (RF r) 0 P ops Q rest a' w) : wpListIn (RF r) 0 P ops Q (o :: rest) a w :=
  wpListIn_plain hg fun K hK => oper_in (noDefer_ne hno) (w_at hF h hd hn fun a' hF' => hK _ _ (k a' hF'))
theorem regionR {r : Option Nat} {id : Nat} {l : List Oper} (h : wpListIn (RF r) 0 P l.toArray Q l a w) : (Code.region id l.toArray false).wpIn (RF r) 0 P Q a w := wpIn_region_lit h
theorem li_nilR {r : Option Nat} (h : Q .normal a w) : wpListIn (RF r) 0 P ops Q [] a w := h
end
/-! ### A function that ranges over functions many times: the marks of its statements -/
def dsOf (bs : List Nat) : List Deferred := bs.map fun b => { target := .collected b, args := #[] }
def Asn.marks (bs : List Nat) : Asn := ⟨fun k => k ∈ bs, fun _ => False, fun w => bs.Nodup ∧ ∀ b ∈ bs, w.heap[b]? = some (.deferred (some [])), fun {w w'} h hw => ⟨hw.1, fun b hb => (h b (.inl hb)).trans (hw.2 b hb)⟩⟩
section
variable {B : Nat → Prop} {w w0 : World} {H : List (Nat × Asn)} {P : Program} {a : Act} {n : Nat} {L : List (Nat × Value)} {Q : Exit → Act → World → Prop} {fn : Func} {R : Ending → World → Prop} {bs : List Nat} {ds : List Deferred}
theorem Hp.marks0 (h : Hp B w0 w H) (l : Nat) : Hp B w0 w ((l, .marks []) :: H) :=
  h.one (Mods.refl (fun _ => False) w) l _ (fun k hk => hk.elim) ⟨List.nodup_nil, fun b hb => by cases hb⟩ (fun k hk => by cases hk) (fun k hk => hk.elim) (fun k hk => by rcases hk with hk | hk; (· cases hk); (· exact hk.elim)) (fun k hk => by cases hk)
theorem Hp.markAdd (h : Hp B w0 w H) (l l2 : Nat) (hd : l ≠ l2) {b : Nat} (hl : get H l = some (.marks bs)) (h2 : get H l2 = some (.blk b (.deferred (some [])))) : Hp B w0 w ((l, .marks (b :: bs)) :: ([(l, .emp), (l2, .emp)] ++ H)) := by
  have hm := h.holds l _ hl
  refine h.bind l [(l, .marks bs), (l2, .blk b (.deferred (some [])))] (sub_cons (sub_cons (sub_nil _) l2 h2) l hl) ⟨?_, ?_⟩ ?_ (fun k hk => hk.elim) (fun k _ hk => hk) (by rw [get_cons, if_pos rfl]; rfl)
  · rw [List.nodup_cons]
    exact ⟨fun hb => h.sep l2 l _ _ (fun e => hd e.symm) h2 hl b rfl (.inl hb), hm.1⟩
  · intro k hk
    rcases List.mem_cons.1 hk with rfl | hk
    · exact h.at l2 h2
    · exact hm.2 k hk
  · intro k hk
    rcases List.mem_cons.1 hk with rfl | hk
    · exact ⟨l2, _, by rw [get_cons, if_neg hd, get_cons, if_pos rfl], rfl⟩
    · exact ⟨l, _, by rw [get_cons, if_pos rfl], hk⟩
theorem leaves_marks (hr : fn.results = #[]) : ∀ (bs : List Nat) {w : World} {H : List (Nat × Asn)} (l : Nat), Hp B w0 w H → get H l = some (.marks bs) → (∀ w', Hp B w0 w' ((l, .marks []) :: H) → R (.returned (.tuple #[])) w') → LeavesInM Fence.wide 0 P fn a.tmps R (dsOf bs) .returning w
  | [], w, H, l, hH, hl, k => ⟨_, res0 hr, k w (hH.sub _ fun i A hA => by rcases get_one hA with ⟨rfl, rfl⟩ | ⟨_, h2⟩; exact hl; exact h2)⟩
  | b :: bs, w, H, l, hH, hl, k => by
    have hm := hH.holds l _ hl
    have hnd := hm.1
    rw [List.nodup_cons] at hnd
    have hb := hm.2 b (by simp)
    refine ⟨(by intro h; cases h), .inl ⟨b, _, rfl, run_takeDeferred hb, ?_⟩⟩
    have h2 : Hp B w0 (w.putObj b (.deferred none)) ((l, .marks bs) :: H) := by
      have hmods := Mods.putObj w b (.deferred none)
      refine hH.one hmods l (.marks bs) (fun k hk => ⟨_, hl, by rw [show k = b from hk]; exact List.mem_cons_self ..⟩) ⟨hnd.2, fun c hc => ?_⟩ (fun k hk => .inl ⟨_, hl, List.mem_cons_of_mem _ hk⟩) (fun k hk => hk.elim) (fun k hk => ?_) (fun k _ hk => hk)
      · rw [World.putObj_heap_other (fun e : c = b => hnd.1 (by rw [← e]; exact hc))]
        exact hm.2 c (List.mem_cons_of_mem _ hc)
      · rcases hk with hk | hk
        · exact Nat.lt_of_lt_of_le (hH.inb l _ hl k (.inl (List.mem_cons_of_mem _ hk))) hmods.size
        · exact hk.elim
    exact leaves_marks hr bs l h2 (by rw [get_cons, if_pos rfl]) fun w' h3 => k w' (h3.sub _ fun i A hA => by
      rcases get_one hA with ⟨rfl, rfl⟩ | ⟨hne, h4⟩
      · rw [get_cons, if_pos rfl]
      · rw [get_cons, if_neg (fun e => hne e.symm), get_cons, if_neg (fun e => hne e.symm)]; exact h4)
theorem fin_marks0 (hr : fn.results = #[]) (hF : FrD (dsOf bs) n a L) (hH : Hp B w0 w H) (l : Nat) (hl : get H l = some (.marks bs)) (k : ∀ w', Hp B w0 w' ((l, .marks []) :: H) → R (.returned (.tuple #[])) w') : bodyPostM Fence.wide 0 P fn R .ret a w := by
  show LeavesInM _ _ _ _ _ _ a.defers _ _
  rw [hF.defers]; exact leaves_marks hr bs l hH hl k
theorem fin_marksN0 (hr : fn.results = #[]) (hF : FrD (dsOf bs) n a L) (hH : Hp B w0 w H) (l : Nat) (hl : get H l = some (.marks bs)) (k : ∀ w', Hp B w0 w' ((l, .marks []) :: H) → R (.returned (.tuple #[])) w') : bodyPostM Fence.wide 0 P fn R .normal a w := by
  show LeavesInM _ _ _ _ _ _ a.defers _ _
  rw [hF.defers]; exact leaves_marks hr bs l hH hl k
theorem wp_rangeM {g : Operand} {p : Tmp} {assign body : Code} {f : FuncId} {ff : Func} {caps : Array Value} (hF : FrD ds n a L) (hH : Hp B w0 w H) (ll lm : Nat) (hg : a.eval g = .func (.func f) #[] caps)
    (hf : P.funcs[f]? = some ff) (hn : (ff.name == "runtime.NumGoroutine") = false) (hb : ff.body.isNone = false)
    (k : ∀ r l bm w1, LoopOf r a.tmps p assign body → w.heap.size ≤ l → Hp B w0 w1 ((ll, .blk l (.loop r)) :: (lm, .blk bm (.deferred (some []))) :: H) →
      Calls P f (#[.func (.yield l) #[] #[]] ++ caps) w1 (rangePost Fence.wide 0 P l Q { a with defers := { target := .collected bm, args := #[] } :: ds })) :
    (Code.rangeFunc g #[p] assign body).wp P Q a w := by
  refine wpIn_wide.1 (wpIn_rangeFunc (n := 0) fun fid _ => ?_)
  have h1 := (hH.new lm (.deferred (some [])))
  have h2 := h1.new ll (.loop { state := .ready, pending := none, fn := fid, tmps := a.tmps, params := #[p], assign, body, defers := w.heap.size })
  have hc := k _ _ _ _ ⟨rfl, rfl, rfl, rfl, rfl, rfl⟩ (by simp) h2
  have hn' : ¬ ff.name = "runtime.NumGoroutine" := by simpa using hn
  have hb' : ¬ ff.body = Option.none := by intro h; rw [h] at hb; simp at hb
  refine ⟨_, _, _, { target := .fn (.func f) caps, args := #[.func (.yield (w.heap.size + 1)) #[] #[]] }, ((w.alloc (.deferred (some []))).alloc (.loop { state := .ready, pending := none, fn := fid, tmps := a.tmps, params := #[p], assign := assign, body := body, defers := w.heap.size })), f, #[.func (.yield (w.heap.size + 1)) #[] #[]] ++ caps, ((w.alloc (.deferred (some []))).alloc (.loop { state := .ready, pending := none, fn := fid, tmps := a.tmps, params := #[p], assign := assign, body := body, defers := w.heap.size })), run_enterLoop_outer fid a.tmps #[p] assign body, ?_, fun _ _ => trivial, ?_, fun h => (by cases h), ?_⟩
  · have hy : a.eval (.const (.func (.yield (w.heap.size + 1)) #[] #[])) = .func (.yield (w.heap.size + 1)) #[] #[] := rfl
    generalize a.eval = ρ at *
    simp [rangeCall, resolve, Deferred.ofValue, hg, hy, go_sem]
  · simp [invoke, callFunc, hf, hn', hb', go_sem]
  · refine calls_in (r := none) ?_
    rw [hF.defers]
    simpa using hc
/-- Such a function's post, without a panic. -/
def bodyPostN (P : Program) (fn : Func) (R : Ending → World → Prop) : Exit → Act → World → Prop
  | .panic _, _, _ => False
  | .normal, a, w => bodyPostM Fence.wide 0 P fn R .normal a w
  | .ret, a, w => bodyPostM Fence.wide 0 P fn R .ret a w
  | _, _, _ => False
theorem calls_marksN {f : FuncId} {c : Code} {args : Array Value} (hf : P.funcs[f]? = some fn) (hb : fn.body = some c)
    (h : c.wp P (bodyPostN P fn R) { tmps := args ++ Array.replicate (fn.ntmps - args.size) undef, defers := [] } w) : Calls P f args w R :=
  calls_marks hf hb (wp_mono h fun e a w hq => by cases e <;> first | exact hq | exact hq.elim)
theorem fin_marks (hr : fn.results = #[]) (hF : FrD (dsOf bs) n a L) (hH : Hp B w0 w H) (l : Nat) (hl : get H l = some (.marks bs)) (k : ∀ w', Hp B w0 w' ((l, .marks []) :: H) → R (.returned (.tuple #[])) w') : bodyPostN P fn R .ret a w := fin_marks0 hr hF hH l hl k
theorem fin_marksN (hr : fn.results = #[]) (hF : FrD (dsOf bs) n a L) (hH : Hp B w0 w H) (l : Nat) (hl : get H l = some (.marks bs)) (k : ∀ w', Hp B w0 w' ((l, .marks []) :: H) → R (.returned (.tuple #[])) w') : bodyPostN P fn R .normal a w := fin_marksN0 hr hF hH l hl k
theorem FrD.roundD (hF : FrD ds n a L) (p : Nat) (v : Value) (hp : Nat.blt p n = true) : Fr n { tmps := a.tmps.setIfInBounds p v, defers := [] } ((p, v) :: L) := by
  have h := hF.put p v hp
  exact ⟨h.size, rfl, h.at_⟩
end
section
variable {S : List TRec} {base : Str} {root : Nat} {l : List Ent} {p q : TRec} {c : Int}
def ksOf (p : TRec) : List Int := sortB (p.kids.map (·.1))
def toldN (S : List TRec) (l : List Ent) (p : TRec) (i : Nat) : List Ent := valL p ++ ((ksOf p).take i).flatMap fun c => underL l (kidAt S p c)
theorem ksOf_mem (c : Int) : c ∈ ksOf p ↔ (al p.kids c).isSome = true := by
  unfold ksOf
  rw [(sortB_perm _).mem_iff]
  cases h : al p.kids c with
  | none => have := al_none.1 h; simpa using this
  | some b => simp only [Option.isSome_some, iff_true]; exact List.mem_map.2 ⟨_, al_mem h, rfl⟩
theorem ksOf_len : (ksOf p).length = p.kids.length := by unfold ksOf; rw [(sortB_perm _).length_eq, List.length_map]
theorem each_all (hw : WF S base root) (he : EntOf S l) (hp : p ∈ S) : underL l p.path = valL p ++ (ksOf p).flatMap fun c => underL l (kidAt S p c) :=
  each_eq hw he hp (sortB_lt (hw.keys p hp)) ksOf_mem
theorem ksOf_kid (hw : WF S base root) (hp : p ∈ S) {i : Nat} (hi : i < (ksOf p).length) : ∃ q ∈ S, al p.kids (gi (ksOf p) (i : Int)) = some q.nb := by
  have hm : gi (ksOf p) (i : Int) ∈ ksOf p := List.mem_of_getElem? (gi_get hi)
  obtain ⟨b, hb⟩ := Option.isSome_iff_exists.1 ((ksOf_mem _).1 hm)
  obtain ⟨q, hq, e, _⟩ := hw.kid p hp _ b hb
  exact ⟨q, hq, by rw [hb, e]⟩
theorem told_zero : toldN S l p 0 = valL p := by unfold toldN; simp
theorem told_succ (hw : WF S base root) (hq : q ∈ S) {i : Nat} (hi : i < (ksOf p).length) (hc : al p.kids (gi (ksOf p) (i : Int)) = some q.nb) : toldN S l p (i + 1) = toldN S l p i ++ underL l q.path := by
  unfold toldN
  rw [List.take_add_one, gi_get hi]
  simp [hw.kidAt_eq hq hc]
theorem told_pre (hw : WF S base root) (he : EntOf S l) (hp : p ∈ S) (i : Nat) : toldN S l p i <+: underL l p.path := by
  rw [each_all hw he hp]
  unfold toldN
  rw [List.prefix_append_right_inj]
  conv => rhs; rw [← List.take_append_drop i (ksOf p), List.flatMap_append]
  exact List.prefix_append _ _
theorem told_end (hw : WF S base root) (he : EntOf S l) (hp : p ∈ S) {i : Nat} (hi : (ksOf p).length ≤ i) : toldN S l p i = underL l p.path := by
  rw [each_all hw he hp]
  unfold toldN
  rw [List.take_of_length_le hi]
theorem told_val {b : Nat} {v : Str} (hv : p.val = some (b, v)) : valL p = [(p.path, v)] := by unfold valL; rw [hv]
theorem told_none (hv : p.val = none) : valL p = [] := by unfold valL; rw [hv]
def walkL (l : List Ent) (pre : Str) (most : Int) : List Ent := if most < 1 then [] else (underL l pre).take most.toNat
theorem walk_nil {pre : Str} {most : Int} (h : underL l pre = []) : walkL l pre most = [] := by unfold walkL; rw [h]; split <;> simp
theorem mn_nat (x y : Nat) : (mn (x : Int) (y : Int)).toNat = min x y := by unfold mn; split <;> omega
theorem walk_odd {rest : Str} (h : ((lcp rest q.lab).length : Int) < mn (rest.length : Int) (q.lab.length : Int)) : (lcp rest q.lab).length < min rest.length q.lab.length := by unfold mn at h; split at h <;> omega
theorem walk_even {rest : Str} (h : ¬ ((lcp rest q.lab).length : Int) < mn (rest.length : Int) (q.lab.length : Int)) : ¬ (lcp rest q.lab).length < min rest.length q.lab.length := by unfold mn at h; split at h <;> omega
theorem walk_key {rest pre : Str} (hw : WF S base root) (hp : p ∈ S) (hq : q ∈ S) (hc : al p.kids c = some q.nb) (hk : pre = p.path ++ rest) (hl : ¬ (lcp rest q.lab).length < min rest.length q.lab.length) (hne : rest.drop (min rest.length q.lab.length) ≠ []) : pre = q.path ++ rest.drop (min rest.length q.lab.length) := by
  have h1 : q.lab.length < rest.length := by
    rcases Nat.lt_or_ge q.lab.length rest.length with h | h
    · exact h
    · rw [Nat.min_eq_left h, List.drop_length] at hne; exact (hne rfl).elim
  rw [Nat.min_eq_right (by omega)]
  exact kid_key hw hp hq hc hk ((lcp_full hl).2 (by omega))
theorem walk_under {rest pre : Str} (he : EntOf S l) (hw : WF S base root) (hp : p ∈ S) (hq : q ∈ S) (hr : rest.head? = some c) (hc : al p.kids c = some q.nb) (hk : pre = p.path ++ rest) (hl : ¬ (lcp rest q.lab).length < min rest.length q.lab.length) (hne : rest.drop (min rest.length q.lab.length) = []) : underL l pre = underL l q.path := by
  have h1 : rest.length ≤ q.lab.length := by
    rcases Nat.le_total rest.length q.lab.length with h | h
    · exact h
    · have h2 := congrArg List.length hne
      rw [List.length_drop, List.length_nil] at h2; omega
  rw [hk]
  exact under_short he hw hp hq hr hc ((lcp_full hl).1 h1)
theorem walk_all {pre : Str} {most : Int} (h1 : ¬ most < 1) (h2 : (underL l pre).length < most.toNat) : underL l pre = walkL l pre most := by
  unfold walkL; rw [if_neg h1, List.take_of_length_le (by omega)]
theorem walk_take {pre xs : Str} {most : Int} {ys : List Ent} (h1 : ¬ most < 1) (h2 : ys <+: underL l pre) (h3 : (ys.length : Int) = most) : ys = walkL l pre most := by
  unfold walkL
  rw [if_neg h1, show most.toNat = ys.length from by omega]
  exact List.prefix_iff_eq_take.1 h2
theorem nodup_len : ∀ {l m : List Nat}, l.Nodup → (∀ x ∈ l, x ∈ m) → l.length ≤ m.length
  | [], _, _, _ => Nat.zero_le _
  | a :: l, m, hn, hs => by
    rw [List.nodup_cons] at hn
    obtain ⟨s, t, rfl⟩ := List.append_of_mem (hs a (by simp))
    have := nodup_len (l := l) (m := s ++ t) hn.2 fun x hx => by
      have h1 := hs x (List.mem_cons_of_mem _ hx)
      simp only [List.mem_append, List.mem_cons] at h1 ⊢
      rcases h1 with h1 | rfl | h1
      · exact .inl h1
      · exact (hn.1 hx).elim
      · exact .inr h1
    simp only [List.length_append, List.length_cons] at this ⊢; omega
theorem kids_le (hw : WF S base root) (hp : p ∈ S) : p.kids.length ≤ S.length := by
  have h1 : (p.kids.map (·.2)).Nodup := by
    have hk := hw.keys p hp
    unfold Keys at hk
    rw [List.nodup_iff_pairwise_ne, List.pairwise_map] at hk ⊢
    refine hk.imp_of_mem ?_
    intro a b ha hb hne e
    have ea := al_of_mem (hw.keys p hp) (k := a.1) (x := a.2) ha
    have eb := al_of_mem (hw.keys p hp) (k := b.1) (x := b.2) hb
    obtain ⟨q, hq, hn, _⟩ := hw.kid p hp _ _ ea
    exact hne (hw.only hp hp hq (by rw [eb, ← e, hn]) (by rw [ea, hn])).2
  have := nodup_len (m := S.map (·.nb)) h1 fun b hb => by
    obtain ⟨a, ha, rfl⟩ := List.mem_map.1 hb
    obtain ⟨q, hq, hn, _⟩ := hw.kid p hp _ _ (al_of_mem (hw.keys p hp) (k := a.1) (x := a.2) ha)
    exact List.mem_map.2 ⟨q, hq, hn⟩
  rwa [List.length_map, List.length_map] at this
end
end Go.Proofs.Ytlcnoibjhmflnaa.Sx
