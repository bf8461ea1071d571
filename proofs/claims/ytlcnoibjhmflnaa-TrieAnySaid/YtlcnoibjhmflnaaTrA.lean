/- A trie as a thing with a state. -/
import Derived.Test.YtlcnoibjhmflnaaArn
set_option linter.unusedVariables false
set_option linter.unusedSimpArgs false
namespace Go.Proofs.Ytlcnoibjhmflnaa.Sx
open Go.RowKit
/-- The trie of the entries l. -/
def TrieA (TT TN TS : TypeId) (tb : Nat) (l : List Ent) (X : Asn) : Prop := ∃ S root, X = Asn.all [(1, .blk tb (.cells #[ptrV root, .int .i64 (l.length : Int), .int .i64 (S.length : Int)] TT (0, 0))), (3, .arena TN TS S)] ∧ WF S [] root ∧ MinBut S [] [] ∧ EntOf S l
section
variable {B : Nat → Prop} {w0 w : World} {H : List (Nat × Asn)} {T TS : TypeId} {S : List TRec} {r p q : TRec} {base key rest : Str} {root : Nat} {c : Int} {X Y : Asn}
theorem ro2 (h : (Asn.all [(1, X), (3, Y)]).holds w) : Hp (fun _ => False) w w [(1, .ro X), (3, .ro Y)] := by
  have h1 := (Hp.ofAll h).roAny 1 rfl
  have h2 := h1.roAny 3 (X := Y) rfl
  exact (h2.sub [(1, .ro X), (3, .ro Y)] (sub_cons (sub_cons (sub_nil _) 3 rfl) 1 rfl)).still (own_cons (fun k h => h) (own_cons (fun k h => h) own_nil))
theorem kid_key (h : WF S base root) (hp : p ∈ S) (hq : q ∈ S) (hc : al p.kids c = some q.nb) (hk : key = p.path ++ rest) (hpre : q.lab <+: rest) : key = q.path ++ rest.drop q.lab.length := by
  rw [(h.kid' hp hq hc).1, hk, List.append_assoc]
  congr 1
  obtain ⟨t, rfl⟩ := hpre
  simp
theorem kid_lt (h : WF S base root) (hp : p ∈ S) (hq : q ∈ S) (hc : al p.kids c = some q.nb) (hpre : q.lab <+: rest) : (rest.drop q.lab.length).length < rest.length := by
  have h1 := List.length_pos_iff.2 (head_ne (h.kid' hp hq hc).2)
  have h2 := hpre.length_le
  rw [List.length_drop]; omega
theorem Hp.relab (h : Hp B w0 w H) (l : Nat) (hl : get H l = some X) (e : X = Y) : Hp B w0 w ((l, Y) :: H) := by
  subst e
  refine h.sub _ fun i A hA => ?_
  rcases get_one hA with ⟨rfl, rfl⟩ | ⟨_, h2⟩
  · exact hl
  · exact h2
theorem Hp.vroAt (h : Hp B w0 w H) (l : Nat) {v : Option (Nat × List Int)} (hl : get H l = some (vro TS v)) {b : Nat} {s : List Int} (hv : v = some (b, s)) : Hp B w0 w ((l, .ro (.blk b (.cells #[.string (strOfNums s)] TS (0, 0)))) :: H) := by
  subst hv
  refine h.sub _ fun i A hA => ?_
  rcases get_one hA with ⟨rfl, rfl⟩ | ⟨_, h2⟩
  · exact hl
  · exact h2
theorem valA_of {v : Option (Nat × List Int)} {b : Nat} {s : List Int} (h : v = some (b, s)) : valA v = some ⟨b, 0, none⟩ := by rw [h]; rfl
end
section
variable {κ α : Type} [DecidableEq κ] {K : KeyR κ} {V : VRep α} {P : Program} {a : Act} {w w0 : World} {K' : Act → World → Prop} {Q : Exit → Act → World → Prop} {v : Value} {B : Nat → Prop} {H : List (Nat × Asn)} {ty : TypeId} {pos : String} {af : Array Edge} {x y u : Operand} {t kt e : TypeId} {gg : Option (Nat × Bool)} {m : List (κ × α)} {b : Nat} {ok : Nat → Prop}
theorem w_mapIns (l : Nat) {k : κ} {yv : α} (ok' : Nat → Prop) (hH : Hp B w0 w H) (hl : get H l = some (.map K V b m ok)) (ht : P.underlying t = some (.map kt e)) (hk : P.underlying kt = some K.desc)
    (hx : a.eval x = .map (some b)) (hy : a.eval y = K.val k) (hu : a.eval u = v) (hv : V.R w (fun k => ok' k ∧ k ≠ b) yv v) (hsub : ∀ k, ok k → ok' k) (hok : ∀ k, ok' k → ok k ∨ ∃ j A, get H j = some A ∧ A.rd k)
    (k' : ∀ w', Hp B w0 w' ((l, .map K V b (mput m k yv) ok') :: H) → K' a w') : Oper.wp P ⟨none, .insert t x y u, ty, pos, af, gg⟩ a w K' Q := by
  have h := w_mapSet (Q := Q) (ty := ty) (pos := pos) (af := af) (gg := gg) l ok' hH hl ht hk hx hy hu hv hsub hok k'
  exact h
end
section
variable {S S' : List TRec} {r p q : TRec} {base key rest : Str} {root : Nat} {c : Int} {l : List Ent}
theorem WF.one (nb mb : Nat) : WF [⟨[], nb, mb, [], none, []⟩] [] nb := by
  refine ⟨⟨_, List.mem_singleton.2 rfl, rfl, rfl⟩, by simp, by simp, ?_, ?_, ?_, ?_, ?_⟩
  · intro p hp; rw [List.mem_singleton] at hp; subst hp; exact keys_nil
  · intro p hp c b hc; rw [List.mem_singleton] at hp; subst hp; cases hc
  · intro r hr; rw [List.mem_singleton] at hr; subst hr; exact .inl rfl
  · intro r hr; rw [List.mem_singleton] at hr; subst hr; exact ⟨Byte.nil, by simp, Byte.nil, by simp⟩
  · intro r hr b v hv; rw [List.mem_singleton] at hr; subst hr; cases hv
theorem min_one (nb mb : Nat) : MinBut [⟨[], nb, mb, [], none, []⟩] [] [] := by
  intro r hr h; rw [List.mem_singleton] at hr; subst hr; exact (h rfl).elim
theorem ent_one (nb mb : Nat) : EntOf [⟨[], nb, mb, [], none, []⟩] [] := ⟨List.Pairwise.nil, fun k v => ⟨fun h => (by cases h), fun ⟨r, hr, _, b, hv⟩ => by rw [List.mem_singleton] at hr; subst hr; cases hv⟩⟩
theorem gi_drop_head {xs : List Int} {n : Nat} (h : n < xs.length) : (xs.drop n).head? = some (gi xs (n : Int)) := by rw [List.head?_drop]; exact gi_get h
theorem take_pre {xs ys : Str} (h : xs <+: ys) : ys.take (xs.length : Int).toNat = xs := (List.prefix_iff_eq_take.1 h).symm
theorem pre_rest {xs : Str} (h : xs <+: key) : key = xs ++ key.drop xs.length := by obtain ⟨t, rfl⟩ := h; simp
theorem lng_end {best : Option Ent} {n : Nat} (h : LngOf l key n best) (hn : n = key.length + 1) : LngOf l key (key.length + 1) best := hn ▸ h
theorem lng_miss {best : Option Ent} (he : EntOf S l) (hw : WF S base root) (hp : p ∈ S) (hk : p.path <+: key) (hlt : p.path.length < key.length) (hb : LngOf l key (p.path.length + 1) best) (hc : al p.kids (gi key (p.path.length : Int)) = none) : LngOf l key (key.length + 1) best :=
  hb.wider fun e h1 h2 _ => lng_none he hw hp (gi_drop_head hlt) hc (pre_rest hk) e h1 h2
theorem lng_odd {best : Option Ent} (he : EntOf S l) (hw : WF S base root) (hp : p ∈ S) (hq : q ∈ S) (hk : p.path <+: key) (hlt : p.path.length < key.length) (hb : LngOf l key (p.path.length + 1) best) (hc : al p.kids (gi key (p.path.length : Int)) = some q.nb) (hn : ¬ q.lab <+: key.drop p.path.length) : LngOf l key (key.length + 1) best :=
  hb.wider fun e h1 h2 _ => (lng_kid he hw hp hq (gi_drop_head hlt) hc (pre_rest hk) e h1 h2).resolve_right fun h3 => hn (by
    have h4 := h3.trans h2
    rw [(hw.kid' hp hq hc).1] at h4
    obtain ⟨t, ht⟩ := h4
    refine ⟨t, ?_⟩
    rw [← ht, List.append_assoc]; simp)
theorem lng_down {best : Option Ent} (he : EntOf S l) (hw : WF S base root) (hp : p ∈ S) (hq : q ∈ S) (hk : p.path <+: key) (hlt : p.path.length < key.length) (hb : LngOf l key (p.path.length + 1) best) (hc : al p.kids (gi key (p.path.length : Int)) = some q.nb) : LngOf l key q.path.length best :=
  hb.wider fun e h1 h2 h3 => (lng_kid he hw hp hq (gi_drop_head hlt) hc (pre_rest hk) e h1 h2).resolve_right fun h4 => by have := h4.length_le; omega
theorem kid_pre (hw : WF S base root) (hp : p ∈ S) (hq : q ∈ S) (hk : p.path <+: key) (hc : al p.kids c = some q.nb) (hpre : q.lab <+: key.drop p.path.length) : q.path <+: key := by
  rw [(hw.kid' hp hq hc).1, pre_rest hk, List.prefix_append_right_inj]; exact hpre
theorem kid_len (hw : WF S base root) (hp : p ∈ S) (hq : q ∈ S) (hc : al p.kids c = some q.nb) : q.path.length = p.path.length + q.lab.length ∧ 0 < q.lab.length := by
  obtain ⟨h1, h2⟩ := hw.kid' hp hq hc
  exact ⟨by rw [h1, List.length_append], List.length_pos_iff.2 (head_ne h2)⟩
theorem lcp_pos {xs ys : Str} {c : Int} (h : xs.head? = some c) (h' : ys.head? = some c) : 0 < (lcp xs ys).length := by
  cases xs with
  | nil => cases h
  | cons x xs => cases ys with
    | nil => cases h'
    | cons y ys => simp at h h'; subst h; subst h'; simp [lcp]
theorem lcp_take (xs ys : Str) : ys.take (lcp xs ys).length = xs.take (lcp xs ys).length := by
  rw [← List.prefix_iff_eq_take.1 (lcp_left xs ys), ← List.prefix_iff_eq_take.1 (lcp_right xs ys)]
theorem lcp_cut {xs ys : Str} : ys.take (lcp xs ys).length ++ xs.drop (lcp xs ys).length = xs := by rw [lcp_take, List.take_append_drop]
theorem lcp_odd {xs ys : Str} {x : Int} (h : ys[(lcp xs ys).length]? = some x) : (xs.drop (lcp xs ys).length).head? ≠ some x := fun e => by
  rw [List.head?_drop] at e
  have ha := (List.getElem?_eq_some_iff.1 e).1
  have hb := (List.getElem?_eq_some_iff.1 h).1
  rw [gi_get ha] at e
  rw [gi_get hb] at h
  have := lcp_step (Nat.le_refl _) ha hb (by injection e with e; injection h with h; rw [e, h])
  omega
theorem min_cut {S : List TRec} {p q : TRec} {base : Str} {k : Nat} {x : Int} {nb mb : Nat} {c : Int} (hm : MinBut (p :: q :: S) base base) :
    MinBut ({ p with kids := mput p.kids c nb } :: ⟨p.path ++ q.lab.take k, nb, mb, q.lab.take k, none, [(x, q.nb)]⟩ :: { q with lab := q.lab.drop k } :: S) base (p.path ++ q.lab.take k) := by
  intro r hr h1 h2
  simp only [List.mem_cons] at hr
  rcases hr with rfl | rfl | rfl | hr
  · exact (hm p (by simp) h1 h1).kids (mput_len _ _ _)
  · exact (h2 rfl).elim
  · exact hm q (by simp) h1 h1
  · exact hm r (by simp [hr]) h1 h1
theorem putL_len {l : List Ent} (hs : Sorted l) (k v : Str) : (putL l k v).length = if (al l k).isSome then l.length else l.length + 1 := by
  unfold putL
  rw [List.length_append, List.length_cons]
  induction l with
  | nil => rfl
  | cons e l ih =>
    have hs' := hs
    unfold Sorted at hs'
    rw [List.pairwise_cons] at hs'
    have ih := ih hs'.2
    rw [List.filter_cons, List.filter_cons]
    unfold al
    by_cases hk : e.1 = k
    · rw [if_pos hk]
      have hnone : al l k = none := al_none.2 fun hm => by
        obtain ⟨e2, h1, h2⟩ := List.mem_map.1 hm
        exact lxl_ne (hs'.1 e2 h1) (hk.trans h2.symm)
      rw [hnone] at ih
      rw [show lxl e.1 k = false from by rw [hk]; exact lxl_irr k, show lxl k e.1 = false from by rw [hk]; exact lxl_irr k]
      simp at ih ⊢; omega
    · rw [if_neg hk]
      cases h1 : lxl e.1 k
      · cases h2 : lxl k e.1
        · exact (hk (lxl_tot h1 h2)).elim
        · simp only [if_true, Bool.false_eq_true, if_false, List.length_cons]; split at ih <;> rename_i h <;> simp only [h] <;> simp <;> omega
      · rw [lxl_asym h1]
        simp only [if_true, Bool.false_eq_true, if_false, List.length_cons]; split at ih <;> rename_i h <;> simp only [h] <;> simp <;> omega
end
end Go.Proofs.Ytlcnoibjhmflnaa.Sx
