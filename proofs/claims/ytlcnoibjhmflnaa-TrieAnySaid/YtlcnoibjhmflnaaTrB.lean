/- What a trie's drop and copy leave. -/
import Derived.Test.YtlcnoibjhmflnaaTrA
set_option linter.unusedVariables false
set_option linter.unusedSimpArgs false
namespace Go.Proofs.Ytlcnoibjhmflnaa.Sx
open Go.RowKit
section
variable {S S2 S4 S6 S8 : List TRec} {p q q4 o r : TRec} {root : Nat} {key rest : Str} {c c2 : Int} {l : List Ent}
/-- A key is taken away beneath a node. -/
structure DropP (S S' : List TRec) (root : Nat) (p : TRec) (key : Str) : Prop where
  wf : WF S' [] root
  min : MinBut S' [] p.path
  ent : ∀ l, EntOf S l → EntOf S' (dropL l key)
  self : ∃ p' ∈ S', p'.nb = p.nb ∧ p'.path = p.path
  up : ∀ r ∈ S, r.path <+: p.path → r.path ≠ p.path → r ∈ S'
  vals : ∀ r ∈ S', ∀ k v, r.val = some (k, v) → ∃ r0 ∈ S, r0.val = some (k, v)
  len : S'.length ≤ S.length
theorem nodup_tail {S : List TRec} {p : TRec} (h : ((p :: S).map (·.path)).Nodup) : ∀ r ∈ S, r.path ≠ p.path := fun r hr e => by
  rw [List.map_cons, List.nodup_cons] at h
  exact h.1 (List.mem_map.2 ⟨r, hr, e⟩)
theorem DropP.here (hw : WF S [] root) (hm : MinBut S [] []) (hS : S.Perm (p :: S2)) : DropP S ({ p with val := none } :: S2) root p p.path where
  wf := (hw.perm hS).setVal none (fun b s h => by cases h)
  min := fun r hr h1 h2 => by
    rcases List.mem_cons.1 hr with rfl | hr
    · exact (h2 rfl).elim
    · exact hm r (hS.mem_iff.2 (by simp [hr])) h1 h1
  ent := fun l he => (he.perm hS).clear (hw.perm hS)
  self := ⟨_, List.mem_cons_self .., rfl, rfl⟩
  up := fun r hr _ h2 => by
    rcases List.mem_cons.1 (hS.mem_iff.1 hr) with rfl | hr
    · exact (h2 rfl).elim
    · exact List.mem_cons_of_mem _ hr
  vals := fun r hr k v hv => by
    rcases List.mem_cons.1 hr with rfl | hr
    · cases hv
    · exact ⟨r, hS.mem_iff.2 (by simp [hr]), hv⟩
  len := by rw [hS.length_eq]; simp
theorem kid_up (hw : WF S [] root) (hp : p ∈ S) (hq : q ∈ S) (hc : al p.kids c = some q.nb) {s : Str} (h : s <+: p.path) : s <+: q.path ∧ s ≠ q.path := by
  obtain ⟨h1, h2⟩ := kid_len hw hp hq hc
  refine ⟨h.trans ⟨q.lab, (hw.kid' hp hq hc).1.symm⟩, fun e => ?_⟩
  have := h.length_le
  rw [e] at this; omega
theorem DropP.par (hD : DropP S S4 root q key) (hw : WF S [] root) (hp : p ∈ S) (hq : q ∈ S) (hc : al p.kids c = some q.nb) : p ∈ S4 :=
  hD.up p hp (kid_up hw hp hq hc (List.prefix_refl _)).1 (kid_up hw hp hq hc (List.prefix_refl _)).2
theorem DropP.keep (hD : DropP S S4 root q key) (hw : WF S [] root) (hp : p ∈ S) (hq : q ∈ S) (hc : al p.kids c = some q.nb) (hq4 : q4 ∈ S4) (hqp : q4.path = q.path) (hf : Full q4) : DropP S S4 root p key where
  wf := hD.wf
  min := fun r hr h1 h2 => by
    by_cases e : r.path = q.path
    · rw [hD.wf.path_inj hr hq4 (e.trans hqp.symm)]; exact hf
    · exact hD.min r hr h1 e
  ent := hD.ent
  self := ⟨p, hD.par hw hp hq hc, rfl, rfl⟩
  up := fun r hr h1 h2 => hD.up r hr (kid_up hw hp hq hc h1).1 (kid_up hw hp hq hc h1).2
  vals := hD.vals
  len := hD.len
theorem DropP.del0 (hD : DropP S S4 root q key) (hw : WF S [] root) (hp : p ∈ S) (hq : q ∈ S) (hc : al p.kids c = some q.nb) (hS : S4.Perm (p :: q4 :: S6)) (hqn : q4.nb = q.nb) (hqp : q4.path = q.path) (hv : q4.val = none) (hk : q4.kids = []) :
    DropP S ({ p with kids := mdel p.kids c } :: S6) root p key where
  wf := (hD.wf.perm hS).del0 (by rw [hc, hqn]) hk
  min := min_del0 (hD.wf.perm hS) (by rw [hqp]; exact hD.min.perm hS)
  ent := fun l he => ((hD.ent l he).perm hS).del0 hv
  self := ⟨_, List.mem_cons_self .., rfl, rfl⟩
  up := fun r hr h1 h2 => by
    have h3 := hS.mem_iff.1 (hD.up r hr (kid_up hw hp hq hc h1).1 (kid_up hw hp hq hc h1).2)
    simp only [List.mem_cons] at h3
    rcases h3 with rfl | rfl | h3
    · exact (h2 rfl).elim
    · exact ((kid_up hw hp hq hc h1).2 hqp).elim
    · exact List.mem_cons_of_mem _ h3
  vals := fun r hr k v hv => by
    rcases List.mem_cons.1 hr with rfl | hr
    · exact hD.vals p (hS.mem_iff.2 (by simp)) k v hv
    · exact hD.vals r (hS.mem_iff.2 (by simp [hr])) k v hv
  len := by have h1 := hS.length_eq; have h2 := hD.len; simp only [List.length_cons] at h1 ⊢; omega
theorem DropP.del1 (hD : DropP S S4 root q key) (hw : WF S [] root) (hp : p ∈ S) (hq : q ∈ S) (hc : al p.kids c = some q.nb) (hS : S4.Perm (p :: q4 :: S6)) (hS6 : S6.Perm (o :: S8)) (hqn : q4.nb = q.nb) (hqp : q4.path = q.path) (hv : q4.val = none) (hk : q4.kids = [(c2, o.nb)]) :
    DropP S ({ p with kids := mput (mdel p.kids c) c o.nb } :: { o with lab := q4.lab ++ o.lab } :: S8) root p key := by
  have hS7 : S4.Perm (p :: q4 :: o :: S8) := hS.trans ((hS6.cons q4).cons p)
  have hw7 := hD.wf.perm hS7
  have hok : o.path.length = q4.path.length + o.lab.length ∧ 0 < o.lab.length := kid_len hw7 (p := q4) (c := c2) (by simp) (by simp) (by rw [hk]; simp [al])
  refine ⟨hw7.del1 (by rw [hc, hqn]) hk, min_del1 hw7 (by rw [hqp]; exact hD.min.perm hS7), fun l he => ((hD.ent l he).perm hS7).del1 hv, ⟨_, List.mem_cons_self .., rfl, rfl⟩, fun r hr h1 h2 => ?_, fun r hr k v hv => ?_, ?_⟩
  · have h3 := hS7.mem_iff.1 (hD.up r hr (kid_up hw hp hq hc h1).1 (kid_up hw hp hq hc h1).2)
    simp only [List.mem_cons] at h3
    rcases h3 with rfl | rfl | rfl | h3
    · exact (h2 rfl).elim
    · exact ((kid_up hw hp hq hc h1).2 hqp).elim
    · have h5 := (kid_up hw hp hq hc h1).1.length_le
      rw [hqp] at hok; omega
    · exact List.mem_cons_of_mem _ (List.mem_cons_of_mem _ h3)
  · simp only [List.mem_cons] at hr
    rcases hr with rfl | rfl | hr
    · exact hD.vals p (hS7.mem_iff.2 (by simp)) k v hv
    · exact hD.vals o (hS7.mem_iff.2 (by simp)) k v hv
    · exact hD.vals r (hS7.mem_iff.2 (by simp [hr])) k v hv
  · have h1 := hS7.length_eq; have h2 := hD.len; simp only [List.length_cons] at h1 ⊢; omega
theorem DropP.perm (hD : DropP S S4 root p key) (hS : S4.Perm S6) : DropP S S6 root p key where
  wf := hD.wf.perm hS
  min := hD.min.perm hS
  ent := fun l he => (hD.ent l he).perm hS
  self := let ⟨p', h1, h2⟩ := hD.self; ⟨p', hS.mem_iff.1 h1, h2⟩
  up := fun r hr h1 h2 => hS.mem_iff.1 (hD.up r hr h1 h2)
  vals := fun r hr => hD.vals r (hS.mem_iff.2 hr)
  len := by rw [← hS.length_eq]; exact hD.len
theorem dropL_none (h : al l key = none) : dropL l key = l := by
  unfold dropL
  rw [List.filter_eq_self]
  intro e he
  have := (al_none.1 h)
  simp only [Bool.not_eq_true', decide_eq_false_iff_not]
  exact fun e2 => this (List.mem_map.2 ⟨e, he, e2⟩)
theorem dropL_len : ∀ {l : List Ent}, Keys l → ∀ {v : Str}, al l key = some v → (dropL l key).length + 1 = l.length
  | [], _, _, h => by cases h
  | e :: l, hk, v, h => by
    unfold Keys at hk
    rw [List.map_cons, List.nodup_cons] at hk
    unfold al at h
    unfold dropL
    rw [List.filter_cons]
    split at h
    · rename_i e2
      simp only [e2, decide_true, Bool.not_true, Bool.false_eq_true, if_false, List.length_cons]
      have h3 : al l key = none := al_none.2 (by rw [← e2]; exact hk.1)
      have h4 := dropL_none h3
      unfold dropL at h4
      rw [h4]
    · rename_i e2
      have ih := dropL_len (l := l) hk.2 h
      unfold dropL at ih
      simp only [e2, decide_false, Bool.not_false, if_true, List.length_cons]
      omega
theorem DropP.path (hr : r ∈ S) (hw : WF S [] root) (hp : p ∈ S) (e : r.path = p.path ++ []) : r = p := hw.path_inj hr hp (by rw [e, List.append_nil])
theorem drop_kid (hw : WF S [] root) (hr : r ∈ S) (hp : p ∈ S) (e : r.path = p.path ++ rest) (hn : 0 < rest.length) (hk : al p.kids (gi rest 0) = none) : False := hw.miss hr hp hk (e ▸ head_snoc (head_gi hn))
theorem drop_pre (hw : WF S [] root) (hr : r ∈ S) (hp : p ∈ S) (hq : q ∈ S) (e : r.path = p.path ++ rest) (hn : 0 < rest.length) (hk : al p.kids (gi rest 0) = some q.nb) : q.lab <+: rest := by
  have h1 := hw.below hr hp hq hk (e ▸ head_snoc (head_gi hn))
  rw [e, (hw.kid' hp hq hk).1, List.prefix_append_right_inj] at h1; exact h1
end
section
variable {B : Nat → Prop} {w0 w w' : World} {H : List (Nat × Asn)} {T TS : TypeId} {S S' : List TRec} {r p q : TRec} {X : Asn}
theorem Hp.valRo (h : Hp B w0 w H) (l l2 : Nat) (hl : get H l = some (.arena T TS S)) (hr : r ∈ S) {b : Nat} {v : List Int} (hv : r.val = some (b, v)) : Hp B w0 w ((l2, .ro (.blk b (.cells #[.string (strOfNums v)] TS (0, 0)))) :: H) := by
  have h1 := ((h.holds l _ hl).2 r hr).2.2
  rw [hv] at h1
  exact h.addro l2 _ (fun _ hk => hk) h1 (fun i hi => ⟨l, _, hl, r, hr, v, by rcases hi with hi | hi; (· rw [hv, show i = b from hi]); (· exact hi.elim)⟩)
theorem Hp.arNew (h : Hp B w0 w H) (l l3 : Nat) (h3 : get H l3 = some (.ro (.arena T TS S))) (hm : Mods (fun _ => False) w w') (hok : (Asn.arena T TS S').ok w') (hn : ∀ k, (Asn.arena T TS S').own k → w.heap.size ≤ k) (hv : ∀ r ∈ S', ∀ k v, r.val = some (k, v) → ∃ r0 ∈ S, r0.val = some (k, v)) : Hp B w0 w' ((l, .arena T TS S') :: H) :=
  h.one hm l _ (fun k hk => hk.elim) hok.holds (fun k hk => .inr (hn k hk)) (fun k ⟨r, hr, v, hk⟩ => .inr (.inl ⟨l3, _, h3, .inr (let ⟨r0, a, b⟩ := hv r hr k v hk; ⟨r0, a, v, b⟩)⟩)) hok.inb hok.self
theorem Hp.arApart (h : Hp B w0 w H) (l l2 : Nat) (hd : l ≠ l2) (h1 : get H l = some (.arena T TS S)) (h2 : get H l2 = some (.arena T TS S')) : ∀ r ∈ S, ∀ s ∈ S', r.nb ≠ s.nb := fun r hr s hs e => by
  obtain ⟨⟨b, hb, _⟩, _⟩ := (h.holds l _ h1).2 r hr
  exact h.sep l l2 _ _ hd h1 h2 b ⟨r, hr, .inl hb.symm⟩ (.inl ⟨s, hs, .inl (by omega)⟩)
theorem sh_val {S T : List TRec} (hp : (T.map sh).Perm (S.map sh)) : ∀ r ∈ T, ∀ k v, r.val = some (k, v) → ∃ r0 ∈ S, r0.val = some (k, v) := fun r hr k v hv => by
  obtain ⟨s, a1, _, _, a3, _⟩ := sh_mem hp hr
  exact ⟨s, a1, a3.trans hv⟩
/-- A copy, one kid more. -/
structure CopyI (S : List TRec) (p o : TRec) (T : List TRec) (done : List (Int × Nat)) : Prop where
  wf : WF (o :: T) p.path o.nb
  path : o.path = p.path
  lab : o.lab = p.lab
  val : o.val = p.val
  len : o.kids.length = done.length
  keys : ∀ c, (al o.kids c).isSome = true → c ∈ done.map (·.1)
  shp : (T.map sh).Perm ((done.flatMap (fun kb => underS S (kidAt S p kb.1))).map sh)
theorem wf_one {base : Str} {nb mb : Nat} {la : Str} {v : Option (Nat × Str)} (hb : Byte base ∧ base.length ≤ 1000000 ∧ Byte la ∧ la.length ≤ 1000000) (hv : ∀ b s, v = some (b, s) → Byte s ∧ s.length ≤ 1000000) : WF [⟨base, nb, mb, la, v, []⟩] base nb := by
  refine ⟨⟨_, List.mem_singleton.2 rfl, rfl, rfl⟩, by simp, by simp, ?_, ?_, ?_, ?_, ?_⟩
  · intro p hp; rw [List.mem_singleton] at hp; subst hp; exact keys_nil
  · intro p hp c b hc; rw [List.mem_singleton] at hp; subst hp; cases hc
  · intro r hr; rw [List.mem_singleton] at hr; subst hr; exact .inl rfl
  · intro r hr; rw [List.mem_singleton] at hr; subst hr; exact hb
  · intro r hr b s hs; rw [List.mem_singleton] at hr; subst hr; exact hv b s hs
theorem CopyI.start {base : Str} {root nb mb : Nat} (hw : WF S base root) (hp : p ∈ S) : CopyI S p ⟨p.path, nb, mb, p.lab, p.val, []⟩ [] [] :=
  ⟨wf_one (hw.byte p hp) (hw.vbyte p hp), rfl, rfl, rfl, rfl, (fun c h => (by cases h)), List.Perm.refl _⟩
theorem sh_root {base : Str} {root : Nat} {T : List TRec} {t : TRec} (hw : WF S base root) (hq : q ∈ S) (hp : (T.map sh).Perm ((underS S q.path).map sh)) (ht : t ∈ T) (hpath : t.path = q.path) : t.lab = q.lab := by
  obtain ⟨s, a1, a2, a3, _⟩ := sh_mem hp ht
  rw [← hw.path_inj (mem_underS.1 a1).1 hq (a2.trans hpath)]; exact a3.symm
theorem CopyI.step {base : Str} {root : Nat} {o t : TRec} {T T2 : List TRec} {done : List (Int × Nat)} {kb : Int × Nat} (h : CopyI S p o T done) (hw : WF S base root) (hp : p ∈ S) (hq : q ∈ S) (hc : al p.kids kb.1 = some q.nb) (hkb : kb.1 ∉ done.map (·.1)) (ht : t ∈ T2) (hpath : t.path = q.path) (hT : WF T2 q.path t.nb) (hs : (T2.map sh).Perm ((underS S q.path).map sh)) (hd : ∀ r ∈ o :: T, ∀ s ∈ T2, r.nb ≠ s.nb) :
    CopyI S p { o with kids := mput o.kids kb.1 t.nb } (T ++ T2) (done ++ [kb]) := by
  obtain ⟨h1, h2⟩ := hw.kid' hp hq hc
  have hl := sh_root hw hq hs ht hpath
  have hnone : al o.kids kb.1 = none := by
    cases hx : al o.kids kb.1 with
    | none => rfl
    | some x => exact (hkb (h.keys _ (by rw [hx]; rfl))).elim
  refine ⟨WF.hang h.wf (hpath ▸ hT) ht hnone (by rw [hpath, h1, h.path, hl]) (by rw [hl]; exact h2) hd, h.path, h.lab, h.val, ?_, fun c hc2 => ?_, ?_⟩
  · dsimp only; rw [mput_length, hnone, List.length_append, h.len]; simp
  · dsimp only at hc2
    rw [al_put] at hc2
    rw [List.map_append, List.mem_append]
    split at hc2
    · rename_i e; exact .inr (by simp [e])
    · exact .inl (h.keys c hc2)
  · rw [List.map_append, List.flatMap_append, List.map_append]
    refine h.shp.append ?_
    rw [List.flatMap_cons, List.flatMap_nil, List.append_nil, hw.kidAt_eq hq hc]
    exact hs
theorem CopyI.done {base : Str} {root : Nat} {o : TRec} {T : List TRec} {done : List (Int × Nat)} (h : CopyI S p o T done) (hw : WF S base root) (hp : p ∈ S) (hd : done.Perm p.kids) : ((o :: T).map sh).Perm ((underS S p.path).map sh) := by
  have h1 := ((under_split hw hp).map sh).symm
  refine List.Perm.trans ?_ h1
  rw [List.map_cons, List.map_cons]
  have e : sh o = sh p := by simp only [sh, h.path, h.lab, h.val, h.len, hd.length_eq]
  rw [e]
  exact (h.shp.trans ((hd.flatMap_right _).map sh)).cons _
theorem Hp.as1 {Y : Asn} (h : Hp B w0 w H) (l : Nat) (hne : l ≠ 3) (hl : get H l = some X) (h3 : get H 3 = some Y) : Hp B w0 w [(1, X), (3, Y)] := by
  have two : ∀ {i A}, get [(1, X), (3, Y)] i = some A → (i = 1 ∧ A = X) ∨ (i = 3 ∧ A = Y) := fun {i A} hA => by
    rcases get_one hA with h1 | ⟨_, hA⟩
    · exact .inl h1
    · rcases get_one hA with h1 | ⟨_, hA⟩
      · exact .inr h1
      · simp [get] at hA
  refine ⟨h.mods, fun i A hA => ?_, fun i A hA => ?_, fun i A hA => ?_, fun i A hA => ?_, fun i j A A' hij hA hA' => ?_⟩
  · rcases two hA with ⟨_, rfl⟩ | ⟨_, rfl⟩; exact h.holds _ _ hl; exact h.holds _ _ h3
  · rcases two hA with ⟨_, rfl⟩ | ⟨_, rfl⟩; exact h.mine _ _ hl; exact h.mine _ _ h3
  · rcases two hA with ⟨_, rfl⟩ | ⟨_, rfl⟩; exact h.inb _ _ hl; exact h.inb _ _ h3
  · rcases two hA with ⟨_, rfl⟩ | ⟨_, rfl⟩; exact h.self _ _ hl; exact h.self _ _ h3
  · rcases two hA with ⟨e1, rfl⟩ | ⟨e1, rfl⟩ <;> rcases two hA' with ⟨e2, rfl⟩ | ⟨e2, rfl⟩
    · exact absurd (e1.trans e2.symm) hij
    · exact h.sep l 3 _ _ hne hl h3
    · exact h.sep 3 l _ _ (fun e => hne e.symm) h3 hl
    · exact absurd (e1.trans e2.symm) hij
theorem copy_new {done r1 r2 m : List (Int × Nat)} {x : Int × Nat} (hk : Keys m) (h : (done ++ (r1 ++ x :: r2)).Perm m) : x.1 ∉ done.map (·.1) := fun hm => by
  have h1 : Keys (done ++ (r1 ++ x :: r2)) := (h.map _).nodup_iff.2 hk
  unfold Keys at h1
  rw [List.map_append, List.nodup_append] at h1
  exact h1.2.2 x.1 hm x.1 (by simp) rfl
theorem copy_perm {done r1 r2 m : List (Int × Nat)} {x : Int × Nat} (h : (done ++ (r1 ++ x :: r2)).Perm m) : ((done ++ [x]) ++ (r1 ++ r2)).Perm m := by
  refine List.Perm.trans ?_ h
  rw [List.append_assoc]
  refine List.Perm.append_left done ?_
  exact (List.perm_middle (a := x) (l₁ := r1) (l₂ := r2)).symm
theorem ro1 (h : X.ok w) (hno : ∀ k, ¬ X.own k) : Hp (fun _ => False) w w [(3, X)] := (Hp.own1 h 3).still (own_cons (fun k h => (hno k h)) own_nil)
end
end Go.Proofs.Ytlcnoibjhmflnaa.Sx
