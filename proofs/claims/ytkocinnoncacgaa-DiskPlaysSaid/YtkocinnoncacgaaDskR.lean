/- The document's disk: what lies in memory, and that it answers as the disk does. -/
import Derived.Test.YtkocinnoncacgaaDskD
set_option linter.unusedVariables false
set_option linter.unusedSimpArgs false
namespace Go.Proofs.Ytkocinnoncacgaa.Dsk
open Go.RowKit Go.Proofs.Ytkocinnoncacgaa.Sx
abbrev SgE : Rep (Int × Seg) := Rep.pair (Rep.int .i64) SE
def gq (xs : DM) (i : Int) : Int × Seg := xs.getD i.toNat (0, [], 0)
theorem gq_some {xs : DM} {i : Int} (h0 : 0 ≤ i) (h1 : i < xs.length) : xs[i.toNat]? = some (gq xs i) := by
  have hi : i.toNat < xs.length := by omega
  simp [gq, List.getD_eq_getElem?_getD, List.getElem?_eq_getElem hi]
theorem sg_cells {w : World} {ok : Nat → Prop} {x : Int × Seg} {cs : List Value} (h : SgE.R w ok x cs) : ∃ A c, cs = [.int .i64 x.1, .slice A x.2.1.length c, .int .i64 x.2.2] ∧ Rd (.int .u8) w ok A x.2.1 c := by
  obtain ⟨c1, d1, rfl, h1, h2⟩ := h
  have h1' : c1 = [.int .i64 x.1] := h1
  obtain ⟨A, c, h2, hr⟩ := seg_cells h2
  subst h1' h2
  exact ⟨A, c, rfl, hr⟩
theorem sg_mk {w : World} {ok : Nat → Prop} {x : Int × Seg} {A : Option Addr} {c : Nat} (hr : Rd (.int .u8) w ok A x.2.1 c) : SgE.R w ok x [.int .i64 x.1, .slice A x.2.1.length c, .int .i64 x.2.2] :=
  ⟨[.int .i64 x.1], [.slice A x.2.1.length c, .int .i64 x.2.2], rfl, rfl, [.slice A x.2.1.length c], [.int .i64 x.2.2], rfl, ⟨A, c, rfl, hr⟩, rfl⟩
theorem rd_sg {w : World} {ok : Nat → Prop} {A : Option Addr} {xs : DM} {c : Nat} (hr : Rd SgE w ok A xs c) {i : Nat} {f : Int × Seg} (hx : xs[i]? = some f) : ∃ A0 c0, Rd (.int .u8) w ok A0 f.2.1 c0 ∧ w.cell? (adr A (i * 3)) = some (.int .i64 f.1) ∧ w.cell? (adr A (i * 3 + 1)) = some (.slice A0 f.2.1.length c0) ∧ w.cell? (adr A (i * 3 + 2)) = some (.int .i64 f.2.2) ∧
    (∀ j u, (#[.int .i64 f.1, .slice A0 f.2.1.length c0, .int .i64 f.2.2] : Array Value).toList[j]? = some u → w.cell? ((adr A (i * 3)).add j) = some u) := by
  obtain ⟨cs, hR, hc⟩ := hr.cellsA (n := 3) rfl hx
  obtain ⟨A0, c0, rfl, hb⟩ := sg_cells hR
  obtain ⟨b, off, rfl⟩ := hr.some_ (by have := (List.getElem?_eq_some_iff.1 hx).1; omega)
  have e : ∀ q, adr (some (⟨b, off, Option.none⟩ : Addr)) q = ⟨b, off + q, Option.none⟩ := fun q => by simp only [adr, Option.getD_some]; exact add_off _ _ _
  have g : ∀ j u, [Value.int .i64 f.1, .slice A0 f.2.1.length c0, .int .i64 f.2.2][j]? = some u → w.cell? (adr (some (⟨b, off, Option.none⟩ : Addr)) (i * 3 + j)) = some u := fun j u hj => by
    have := hc j u hj
    rw [e, add_off] at this
    rw [e, ← Nat.add_assoc]; exact this
  refine ⟨A0, c0, hb, ?_, ?_, ?_, ?_⟩
  · exact g 0 _ rfl
  · exact g 1 _ rfl
  · exact g 2 _ rfl
  · exact fun j u hj => hc j u hj
/-- The document's disk lies at bd. -/
def RefA (T : TypeId) (bd : Nat) (S : DM) (rt : List Int) (X : Asn) : Prop :=
  ∃ (As : Option Addr) (cs : Nat) (Ar : Option Addr) (cr : Nat) (oks okr : Nat → Prop), X = Asn.all [(1, .blk bd (.cells #[.slice As S.length cs, .slice Ar rt.length cr] T (0, 0))), (2, .rd_ SgE As S cs oks), (3, .rd_ (.int .u8) Ar rt cr okr)]
theorem ref_ro {T : TypeId} {bd : Nat} {S : DM} {rt : List Int} {As Ar : Option Addr} {cs cr : Nat} {oks okr : Nat → Prop} {w : World} (h : (Asn.all [(1, .blk bd (.cells #[.slice As S.length cs, .slice Ar rt.length cr] T (0, 0))), (2, .rd_ SgE As S cs oks), (3, .rd_ (.int .u8) Ar rt cr okr)]).holds w) :
    Hp (fun _ => False) w w [(1, .ro (.blk bd (.cells #[.slice As S.length cs, .slice Ar rt.length cr] T (0, 0)))), (2, .rd_ SgE As S cs oks), (3, .rd_ (.int .u8) Ar rt cr okr)] := by
  have h1 := (Hp.ofAll h).roAny 1 rfl
  have h2 := h1.sub [(1, .ro (.blk bd (.cells #[.slice As S.length cs, .slice Ar rt.length cr] T (0, 0)))), (2, .rd_ SgE As S cs oks), (3, .rd_ (.int .u8) Ar rt cr okr)] (sub_cons (sub_cons (sub_cons (sub_nil _) 3 rfl) 2 rfl) 1 rfl)
  have hno : ∀ k, OwnL [(1, .ro (.blk bd (.cells #[.slice As S.length cs, .slice Ar rt.length cr] T (0, 0)))), (2, .rd_ SgE As S cs oks), (3, .rd_ (.int .u8) Ar rt cr okr)] k → False := own_cons (fun k h => h.elim) (own_cons (fun k h => h.elim) (own_cons (fun k h => h.elim) own_nil))
  exact ⟨Mods.refl _ _, h2.holds, fun i A hA k hk => (hno k ⟨i, A, hA, hk⟩).elim, h2.inb, h2.self, h2.sep⟩
/-- Behind a call that turns a bundle that lies open. -/
theorem Hp.turnL {B : Nat → Prop} {w0 w w' : World} {H L L' : List (Nat × Asn)} {rdY : Nat → Prop} (h : Hp B w0 w H) (hs : ∀ i A, Sx.get L i = some A → Sx.get H i = some A) (g : Grew (fun _ => False) rdY (Asn.all L) w w' (Asn.all L')) (hY : ∀ k, rdY k → ∃ j A, Sx.get H j = some A ∧ A.rd k) (hL : Cover L L') : Hp B w0 w' (L' ++ H) := by
  have := Hp.back (LI := []) h hs (fun i A h => by simp [Sx.get] at h) (L' := L') ⟨g.mods.mono (fun k hk _ => hk.imp id (fun h => h.elim)), g.ok, g.own, g.rd⟩ hY [] (fun i A h => by simp [Sx.get] at h) (fun i A h => by simp [Sx.get] at h) hL (fun i A h => by simp [Sx.get] at h)
  simpa using this
theorem Hp.sepL {B : Nat → Prop} {w0 w : World} {H L : List (Nat × Asn)} (h : Hp B w0 w H) (hL : ∀ i A, Sx.get L i = some A → Sx.get H i = some A) (l : Nat) {X : Asn} (hl : Sx.get H l = some X) (hn : Sx.get L l = none) : ∀ k, X.rd k → ¬ OwnL L k := fun k hk ⟨i, A, hA, ho⟩ => h.sep i l A X (by rintro rfl; rw [hn] at hA; cases hA) (hL i A hA) hl k ho (.inr hk)
/-- Some assertions are one from now on. -/
theorem Hp.bundle {B : Nat → Prop} {w0 w : World} {H L H' : List (Nat × Asn)} (h : Hp B w0 w H) (l : Nat) (hs : ∀ i A, Sx.get L i = some A → Sx.get H i = some A) (hs' : ∀ i A, Sx.get H' i = some A → Sx.get H i = some A) (ha : Apart L H') (ha' : Apart H' L) : Hp B w0 w ((l, Asn.all L) :: H') := by
  have hL := h.sub L hs
  have hok := hL.okAll
  have two : ∀ i A, Sx.get ((l, Asn.all L) :: H') i = some A → (i = l ∧ A = Asn.all L) ∨ (i ≠ l ∧ Sx.get H' i = some A) := by
    intro i A hA
    rw [get_cons] at hA
    split at hA
    · rename_i e; cases hA; exact .inl ⟨e.symm, rfl⟩
    · rename_i e; exact .inr ⟨fun h => e h.symm, hA⟩
  refine ⟨h.mods, ?_, ?_, ?_, ?_, ?_⟩
  · intro i A hA
    rcases two i A hA with ⟨_, rfl⟩ | ⟨_, h1⟩
    · exact hok.holds
    · exact h.holds i A (hs' i A h1)
  · intro i A hA k hk
    rcases two i A hA with ⟨_, rfl⟩ | ⟨_, h1⟩
    · obtain ⟨j, Y, hj, hy⟩ := hk
      exact h.mine j Y (hs j Y hj) k hy
    · exact h.mine i A (hs' i A h1) k hk
  · intro i A hA
    rcases two i A hA with ⟨_, rfl⟩ | ⟨_, h1⟩
    · exact hok.inb
    · exact h.inb i A (hs' i A h1)
  · intro i A hA
    rcases two i A hA with ⟨_, rfl⟩ | ⟨_, h1⟩
    · exact hok.self
    · exact h.self i A (hs' i A h1)
  · intro i j A A' hij hA hA' k hk
    rcases two i A hA with ⟨e1, rfl⟩ | ⟨e1, h1⟩
    · rcases two j A' hA' with ⟨e2, rfl⟩ | ⟨e2, h2⟩
      · exact absurd (e1.trans e2.symm) hij
      · rintro h3
        exact Hp.apart h hs hs' ha k hk (h3.imp (fun h => ⟨j, A', h2, h⟩) (fun h => ⟨j, A', h2, h⟩))
    · rcases two j A' hA' with ⟨e2, rfl⟩ | ⟨e2, h2⟩
      · rintro h3
        exact Hp.apart h hs' hs ha' k ⟨i, A, h1, hk⟩ h3
      · exact h.sep i j A A' hij (hs' i A h1) (hs' j A' h2) k hk
/-- Other labels. -/
theorem Hp.ren {B : Nat → Prop} {w0 w : World} {H H' : List (Nat × Asn)} (h : Hp B w0 w H) (ρ : Nat → Nat) (hi : ∀ i j, ρ i = ρ j → i = j) (hs : ∀ i A, Sx.get H' i = some A → Sx.get H (ρ i) = some A) : Hp B w0 w H' :=
  ⟨h.mods, fun i A hA => h.holds _ A (hs i A hA), fun i A hA => h.mine _ A (hs i A hA), fun i A hA => h.inb _ A (hs i A hA), fun i A hA => h.self _ A (hs i A hA), fun i j A A' hij hA hA' => h.sep _ _ A A' (fun e => hij (hi i j e)) (hs i A hA) (hs j A' hA')⟩
theorem ren_nil (H : List (Nat × Asn)) (ρ : Nat → Nat) : ∀ i A, Sx.get ([] : List (Nat × Asn)) i = some A → Sx.get H (ρ i) = some A := fun i A h => by simp [Sx.get] at h
theorem ren_cons {H H' : List (Nat × Asn)} {ρ : Nat → Nat} {l : Nat} {X : Asn} (h1 : Sx.get H (ρ l) = some X) (h2 : ∀ i A, Sx.get H' i = some A → Sx.get H (ρ i) = some A) : ∀ i A, Sx.get ((l, X) :: H') i = some A → Sx.get H (ρ i) = some A := fun i A h => by
  rw [get_cons] at h
  split at h
  · rename_i e; cases h; subst e; exact h1
  · exact h2 i A h
def swp (i : Nat) : Nat := if i = 70 then 80 else if i = 80 then 70 else if i = 71 then 81 else if i = 81 then 71 else i
theorem swp_inj : ∀ i j, swp i = swp j → i = j := by intro i j h; unfold swp at h; split at h <;> split at h <;> (repeat' split at h) <;> omega
theorem ga_mem {xs : List ActD} {j : Nat} (h : j < xs.length) : ga xs (j : Int) ∈ xs := List.mem_of_getElem? (ga_some (xs := xs) (i := (j : Int)) (by omega) (by omega))
/-! ### The place of a segment -/
def fnd (S : DM) (n : Int) : Int := match S.findIdx? (fun p => decide (p.1 = n)) with | some i => (i : Int) | none => -1
theorem gq_at {S : DM} {i : Nat} (h : i < S.length) : S[i] = gq S (i : Int) := by
  have := gq_some (xs := S) (i := (i : Int)) (by omega) (by omega)
  rw [Int.toNat_natCast, List.getElem?_eq_getElem h] at this
  exact Option.some.inj this
theorem fnd_yes {S : DM} {n : Int} {j : Nat} (hj : j < S.length) (hb : ∀ i < j, (gq S (i : Int)).1 ≠ n) (he : (gq S (j : Int)).1 = n) : fnd S n = (j : Int) := by
  have : S.findIdx? (fun p => decide (p.1 = n)) = some j := by
    rw [List.findIdx?_eq_some_iff_getElem]
    refine ⟨hj, by rw [gq_at hj, decide_eq_true he], fun i hi => ?_⟩
    rw [gq_at (by omega)]
    simpa using hb i hi
  unfold fnd; rw [this]
theorem fnd_no {S : DM} {n : Int} (h : ∀ i < S.length, (gq S (i : Int)).1 ≠ n) : fnd S n = -1 := by
  have : S.findIdx? (fun p => decide (p.1 = n)) = none := by
    rw [List.findIdx?_eq_none_iff]
    intro p hp
    obtain ⟨i, hi, rfl⟩ := List.getElem_of_mem hp
    rw [gq_at hi]
    simpa using h i hi
  unfold fnd; rw [this]
theorem fnd_at {S : DM} (hk : Keys S) {n : Int} (h : ¬ fnd S n < 0) : fnd S n < S.length ∧ gq S (fnd S n) = (n, getM S n) ∧ hasM S n = true := by
  unfold fnd at h ⊢
  cases hf : S.findIdx? (fun p => decide (p.1 = n)) with
  | none => rw [hf] at h; simp at h
  | some i =>
    rw [List.findIdx?_eq_some_iff_getElem] at hf
    obtain ⟨hi, he, _⟩ := hf
    have e1 : S[i].1 = n := by simpa using he
    have e2 : al S n = some S[i].2 := al_of_mem hk (by rw [← e1]; exact List.getElem_mem hi)
    dsimp only
    refine ⟨by omega, ?_, by unfold hasM; rw [e2]; rfl⟩
    rw [← gq_at hi]
    unfold getM
    rw [e2, ← e1]; rfl
theorem fnd_neg {S : DM} {n : Int} (h : fnd S n < 0) : hasM S n = false := by
  unfold fnd at h
  cases hf : S.findIdx? (fun p => decide (p.1 = n)) with
  | some i => rw [hf] at h; simp at h; omega
  | none =>
    rw [List.findIdx?_eq_none_iff] at hf
    unfold hasM
    rw [al_none.2]
    · rfl
    · intro hm
      obtain ⟨p, hp, he⟩ := List.mem_map.1 hm
      have := hf p hp
      simp [he] at this
theorem get_neg {S : DM} {n : Int} (h : fnd S n < 0) : getM S n = ([], 0) := by
  have := fnd_neg h
  unfold hasM at this
  unfold getM
  rw [has_no this]; rfl
/-! ### A segment more -/
def Srt (S : DM) : Prop := S.Pairwise fun p q => p.1 < q.1
theorem Srt.keys {S : DM} (h : Srt S) : Keys S := by
  unfold Keys
  rw [List.nodup_iff_pairwise_ne, List.pairwise_map]
  exact h.imp (fun h => by omega)
def ltR (S : DM) (n : Int) (j : Nat) : DM := (S.take j).filter fun p => decide (p.1 < n)
def gtR (S : DM) (n : Int) (j : Nat) : DM := (S.take j).filter fun p => decide (n < p.1)
def withR (S : DM) (p : Int × Seg) : DM := (ltR S p.1 S.length ++ [p]) ++ gtR S p.1 S.length
theorem take_gq {S : DM} {j : Nat} (hj : j < S.length) : S.take (j + 1) = S.take j ++ [gq S (j : Int)] := by rw [List.take_add_one, List.getElem?_eq_getElem hj, gq_at hj]; rfl
theorem lt_yes {S : DM} {n : Int} {j : Nat} (hj : j < S.length) (h : (gq S (j : Int)).1 < n) : ltR S n j ++ [gq S (j : Int)] = ltR S n (j + 1) := by
  unfold ltR; rw [take_gq hj, List.filter_append, List.filter_cons, if_pos (by simpa using h)]; rfl
theorem lt_no {S : DM} {n : Int} {j : Nat} (hj : j < S.length) (h : ¬ (gq S (j : Int)).1 < n) : ltR S n j = ltR S n (j + 1) := by
  unfold ltR; rw [take_gq hj, List.filter_append, List.filter_cons, if_neg (by simpa using h)]; simp
theorem gt_yes {S : DM} {n : Int} {j : Nat} (hj : j < S.length) (h : n < (gq S (j : Int)).1) : gtR S n j ++ [gq S (j : Int)] = gtR S n (j + 1) := by
  unfold gtR; rw [take_gq hj, List.filter_append, List.filter_cons, if_pos (by simpa using h)]; rfl
theorem gt_no {S : DM} {n : Int} {j : Nat} (hj : j < S.length) (h : ¬ n < (gq S (j : Int)).1) : gtR S n j = gtR S n (j + 1) := by
  unfold gtR; rw [take_gq hj, List.filter_append, List.filter_cons, if_neg (by simpa using h)]; simp
theorem lt_len (S : DM) (n : Int) (j : Nat) : (ltR S n j).length ≤ S.length := Nat.le_trans (List.length_filter_le _ _) (by rw [List.length_take]; omega)
theorem gt_len (S : DM) (n : Int) (j : Nat) : (gtR S n j).length ≤ S.length := Nat.le_trans (List.length_filter_le _ _) (by rw [List.length_take]; omega)
theorem mem_al {m : DM} (hk : Keys m) {p : Int × Seg} : p ∈ m ↔ al m p.1 = some p.2 := ⟨fun h => al_of_mem hk h, fun h => al_mem h⟩
theorem keys_nodup {m : DM} (hk : Keys m) : m.Nodup := by
  unfold Keys at hk
  rw [List.nodup_iff_pairwise_ne, List.pairwise_map] at hk
  rw [List.nodup_iff_pairwise_ne]
  exact hk.imp (fun h e => h (by rw [e]))
theorem perm_al {m m' : DM} (hk : Keys m) (hk' : Keys m') (h : ∀ n, al m n = al m' n) : m.Perm m' :=
  (List.perm_ext_iff_of_nodup (keys_nodup hk) (keys_nodup hk')).2 fun p => by rw [mem_al hk, mem_al hk', h]
theorem with_srt {S : DM} (h : Srt S) (p : Int × Seg) : Srt (withR S p) := by
  unfold withR Srt ltR gtR
  rw [List.take_length]
  rw [List.pairwise_append, List.pairwise_append]
  refine ⟨⟨h.filter _, List.pairwise_singleton _ _, fun a ha b hb => ?_⟩, h.filter _, fun a ha b hb => ?_⟩
  · rw [List.mem_singleton] at hb
    subst hb
    have := (List.mem_filter.1 ha).2
    simpa using this
  · have h2 := (List.mem_filter.1 hb).2
    rw [List.mem_append, List.mem_singleton] at ha
    rcases ha with ha | rfl
    · have := (List.mem_filter.1 ha).2
      simp at this h2
      omega
    · simpa using h2
theorem with_perm {m S : DM} (hp : m.Perm S) (hs : Srt S) (n : Int) (x : Seg) : (mput m n x).Perm (withR S (n, x)) := by
  have hk : Keys m := (hp.map _).nodup_iff.2 hs.keys
  have hk2 := (with_srt hs (n, x)).keys
  have hkp : Keys (mput m n x) := Keys.put hk n x
  refine (List.perm_ext_iff_of_nodup (keys_nodup hkp) (keys_nodup hk2)).2 fun p => ?_
  rw [mem_al hkp, al_put]
  unfold withR ltR gtR
  rw [List.take_length, List.mem_append, List.mem_append, List.mem_singleton, List.mem_filter, List.mem_filter]
  rw [al_perm hp hk, ]
  by_cases e : n = p.1
  · rw [if_pos e]
    constructor
    · intro h
      refine .inl (.inr ?_)
      cases p; cases e; cases h; rfl
    · rintro ((⟨_, h⟩ | h) | ⟨_, h⟩)
      · simp at h; omega
      · rw [h]
      · simp at h; omega
  · rw [if_neg e, ← mem_al hs.keys]
    constructor
    · intro h
      by_cases h2 : p.1 < n
      · exact .inl (.inl ⟨h, by simpa using h2⟩)
      · exact .inr ⟨h, by simp; omega⟩
    · rintro ((⟨h, _⟩ | h) | ⟨h, _⟩)
      · exact h
      · exact absurd (by rw [h]) e
      · exact h
/-! ### What its operations leave -/
def appS (S : DM) (n : Int) (b : List Int) : DM := if appOk S n b then withR S (n, ((getM S n).1 ++ b, (getM S n).2)) else S
def syncS (S : DM) (n : Int) : DM := if hasM S n then withR S (n, ((getM S n).1, ((getM S n).1.length : Int))) else S
def cutS (S : DM) (n j : Int) : DM := if cutOk S n j then withR S (n, ((getM S n).1.take j.toNat, j)) else S
def remS (S : DM) (n : Int) : DM := if hasM S n then S.take (fnd S n).toNat ++ S.drop ((fnd S n).toNat + 1) else S
structure Mt (m S : DM) : Prop where
  perm : m.Perm S
  srt : Srt S
theorem Mt.keys {m S : DM} (h : Mt m S) : Keys m := (h.perm.map _).nodup_iff.2 h.srt.keys
theorem Mt.al {m S : DM} (h : Mt m S) (n : Int) : al m n = al S n := al_perm h.perm h.keys n
theorem Mt.get {m S : DM} (h : Mt m S) (n : Int) : getM m n = getM S n := by unfold getM; rw [h.al]
theorem Mt.has {m S : DM} (h : Mt m S) (n : Int) : hasM m n = hasM S n := by unfold hasM; rw [h.al]
theorem Mt.at_ {m S : DM} (h : Mt m S) (n : Int) : atE m n = atE S n := by unfold atE; rw [h.has]
theorem Mt.read_eq {m S : DM} (h : Mt m S) (n : Int) : (decide (atE m n = 0) == decide (0 ≤ fnd S n)) = true := by
  rw [h.at_]
  by_cases hf : fnd S n < 0
  · rw [at_of_no (fnd_neg hf), decide_eq_false (p := 0 ≤ _) (by omega)]; rfl
  · rw [at_of (fnd_at h.srt.keys hf).2.2, decide_eq_true (p := 0 ≤ _) (by omega)]; rfl
theorem at_31 {m : DM} {n : Int} (h : ¬ atE m n = 0) : atE m n = 31 := at_of_no (at_nonzero h)
theorem Mt.appOk_ {m S : DM} (h : Mt m S) (n : Int) (b : List Int) : appOk m n b = appOk S n b := by unfold appOk; rw [h.get, h.has, h.perm.length_eq]
theorem Mt.cutOk_ {m S : DM} (h : Mt m S) (n j : Int) : cutOk m n j = cutOk S n j := by unfold cutOk; rw [h.get, h.has]
theorem Mt.appE_ {m S : DM} (h : Mt m S) (n : Int) (b : List Int) : appE m n b = appE S n b := by unfold appE; rw [h.appOk_]
theorem Mt.cutE_ {m S : DM} (h : Mt m S) (n j : Int) : cutE m n j = cutE S n j := by unfold cutE; rw [h.cutOk_]
theorem Mt.put {m S : DM} (h : Mt m S) (n : Int) (x : Seg) : Mt (mput m n x) (withR S (n, x)) := ⟨with_perm h.perm h.srt n x, with_srt h.srt _⟩
theorem Mt.app {m S : DM} (h : Mt m S) (n : Int) (b : List Int) : Mt (appM m n b) (appS S n b) := by
  unfold appM appS; rw [h.appOk_, h.get]; split
  · exact h.put _ _
  · exact h
theorem Mt.sync {m S : DM} (h : Mt m S) (n : Int) : Mt (syncM m n) (syncS S n) := by
  unfold syncM syncS; rw [h.has, h.get]; split
  · exact h.put _ _
  · exact h
theorem Mt.cut {m S : DM} (h : Mt m S) (n j : Int) : Mt (cutM m n j) (cutS S n j) := by
  unfold cutM cutS; rw [h.cutOk_, h.get]; split
  · exact h.put _ _
  · exact h
theorem Mt.rem {m S : DM} (h : Mt m S) (n : Int) : Mt (remM m n) (remS S n) := by
  unfold remM remS; rw [h.has]; split
  · rename_i hh
    have hf : ¬ fnd S n < 0 := fun h2 => by rw [fnd_neg h2] at hh; cases hh
    obtain ⟨h1, h2, _⟩ := fnd_at h.srt.keys hf
    have e := gq_some (xs := S) (i := fnd S n) (by omega) h1
    have hlt : (fnd S n).toNat < S.length := by omega
    have hsub : (S.take (fnd S n).toNat ++ S.drop ((fnd S n).toNat + 1)).Sublist S := by
      rw [← List.eraseIdx_eq_take_drop_succ]; exact List.eraseIdx_sublist _ _
    have hs2 : Srt (S.take (fnd S n).toNat ++ S.drop ((fnd S n).toNat + 1)) := h.srt.sublist hsub
    refine ⟨?_, hs2⟩
    have hkd : Keys (mdel m n) := Keys.del h.keys n
    refine (List.perm_ext_iff_of_nodup (keys_nodup hkd) (keys_nodup hs2.keys)).2 fun p => ?_
    rw [mem_al hkd, al_del h.keys, h.al]
    have hS : S = S.take (fnd S n).toNat ++ gq S (fnd S n) :: S.drop ((fnd S n).toNat + 1) := by
      have e2 := List.getElem_cons_drop (as := S) (i := (fnd S n).toNat) hlt
      rw [List.getElem?_eq_getElem hlt] at e
      rw [Option.some.inj e] at e2
      rw [e2, List.take_append_drop]
    by_cases hpn : n = p.1
    · rw [if_pos hpn]
      refine ⟨fun h => (by cases h), fun hm => ?_⟩
      exfalso
      have hk := h.srt.keys
      unfold Keys at hk
      rw [hS, List.map_append, List.map_cons, List.perm_middle.nodup_iff, List.nodup_cons, h2] at hk
      apply hk.1
      rw [← List.map_append]
      exact List.mem_map.2 ⟨p, hm, hpn.symm⟩
    · rw [if_neg hpn, ← mem_al h.srt.keys]
      refine ⟨fun hm => ?_, fun hm => hsub.subset hm⟩
      rw [hS] at hm
      rcases List.mem_append.1 hm with hm | hm
      · exact List.mem_append.2 (.inl hm)
      · rcases List.mem_cons.1 hm with hm | hm
        · exfalso; rw [hm, h2] at hpn; exact hpn rfl
        · exact List.mem_append.2 (.inr hm)
  · exact h
theorem Mt.nil : Mt [] [] := ⟨List.Perm.nil, List.Pairwise.nil⟩
theorem Mt.keysL_ {m S : DM} (h : Mt m S) : keysL m = S.map (·.1) := by
  unfold keysL
  rw [sortI_perm (h.perm.map _)]
  refine List.Perm.eq_of_pairwise (le := fun a b => a ≤ b) (fun a b _ _ h1 h2 => by omega) (sortI_sorted _) ?_ (List.mergeSort_perm _ _)
  rw [List.pairwise_map]
  exact h.srt.imp (fun h => by omega)
theorem gt_step {S P : DM} {n : Int} {j : Nat} (hj : j < S.length) (h : n < (gq S (j : Int)).1) : (P ++ gtR S n j) ++ [gq S (j : Int)] = P ++ gtR S n (j + 1) := by rw [List.append_assoc, gt_yes hj h]
theorem gt_none (S P : DM) (n : Int) : P = P ++ gtR S n 0 := by unfold gtR; simp
theorem sync_off {S : DM} {n : Int} (h : hasM S n = false) : syncS S n = S := by unfold syncS; rw [h]; rfl
theorem sync_on {S : DM} {n : Int} (h : hasM S n = true) (hg : gq S (fnd S n) = (n, getM S n)) : syncS S n = withR S ((gq S (fnd S n)).1, ((gq S (fnd S n)).2.1, ((gq S (fnd S n)).2.1.length : Int))) := by unfold syncS; rw [if_pos h]; simp only [hg]
theorem cutS_off {S : DM} {n j : Int} (h : cutOk S n j = false) : cutE S n j = 31 ∧ cutS S n j = S := by unfold cutE cutS; rw [h]; exact ⟨rfl, rfl⟩
theorem cutS_none {S : DM} {n j : Int} (h : fnd S n < 0) : cutE S n j = 31 ∧ cutS S n j = S := cutS_off (by unfold cutOk; rw [fnd_neg h]; rfl)
theorem cutS_neg {S : DM} {n j : Int} (h : j < 0) : cutE S n j = 31 ∧ cutS S n j = S := cutS_off (by unfold cutOk; rw [decide_eq_true h]; simp)
theorem cutS_far {S : DM} {n j : Int} (hg : gq S (fnd S n) = (n, getM S n)) (h : ((gq S (fnd S n)).2.1.length : Int) < j) : cutE S n j = 31 ∧ cutS S n j = S := cutS_off (by rw [hg] at h; dsimp only at h; unfold cutOk; rw [decide_eq_false (p := j ≤ _) (by omega)]; simp)
theorem cutS_on {S : DM} {n j : Int} (hh : hasM S n = true) (hg : gq S (fnd S n) = (n, getM S n)) (h1 : ¬ j < 0) (h2 : ¬ ((gq S (fnd S n)).2.1.length : Int) < j) : cutE S n j = 0 ∧ cutS S n j = withR S (n, ((gq S (fnd S n)).2.1.take j.toNat, j)) := by
  rw [hg] at h2 ⊢
  dsimp only at h2 ⊢
  have := cut_on hh h1 h2
  unfold cutE cutS; rw [this]; exact ⟨rfl, rfl⟩
theorem appS_off {S : DM} {n : Int} {b : List Int} (h : appOk S n b = false) : appE S n b = 31 ∧ appS S n b = S := by unfold appE appS; rw [h]; exact ⟨rfl, rfl⟩
theorem appS_neg {S : DM} {n : Int} {b : List Int} (h : n < 0) : appE S n b = 31 ∧ appS S n b = S := appS_off (by unfold appOk; rw [decide_eq_true h]; rfl)
theorem appS_long {S : DM} {n : Int} {b : List Int} (h : (1024 : Int) < b.length) : appE S n b = 31 ∧ appS S n b = S := appS_off (by unfold appOk; rw [decide_eq_false (p := b.length + _ ≤ 1024) (by omega)]; simp)
theorem appS_more {S : DM} {n : Int} {b : List Int} (hg : gq S (fnd S n) = (n, getM S n)) (h : (1024 : Int) < ((gq S (fnd S n)).2.1.length : Int) + b.length) : appE S n b = 31 ∧ appS S n b = S := appS_off (by rw [hg] at h; dsimp only at h; unfold appOk; rw [decide_eq_false (p := b.length + _ ≤ 1024) (by omega)]; simp)
theorem appS_many {S : DM} {n : Int} {b : List Int} (h0 : fnd S n < 0) (h : 128 ≤ (S.length : Int)) : appE S n b = 31 ∧ appS S n b = S := appS_off (by unfold appOk; rw [fnd_neg h0, decide_eq_false (p := S.length < 128) (by omega)]; simp)
theorem appS_old {S : DM} {n : Int} {b : List Int} (hh : hasM S n = true) (hg : gq S (fnd S n) = (n, getM S n)) (h0 : ¬ n < 0) (h1 : ¬ (1024 : Int) < ((gq S (fnd S n)).2.1.length : Int) + b.length) : appE S n b = 0 ∧ appS S n b = withR S ((gq S (fnd S n)).1, (((gq S (fnd S n)).2.1) ++ b, (gq S (fnd S n)).2.2)) := by
  rw [hg] at h1 ⊢
  dsimp only at h1 ⊢
  have : appOk S n b = true := by unfold appOk; rw [decide_eq_false h0, decide_eq_true (by omega), hh]; rfl
  unfold appE appS; rw [this]; exact ⟨rfl, rfl⟩
theorem appS_new {S : DM} {n : Int} {b : List Int} (h : fnd S n < 0) (h0 : ¬ n < 0) (h1 : ¬ (1024 : Int) < b.length) (h2 : ¬ 128 ≤ (S.length : Int)) : appE S n b = 0 ∧ appS S n b = withR S (n, (([] : List Int) ++ b, 0)) := by
  have : appOk S n b = true := by unfold appOk; rw [decide_eq_false h0, decide_eq_true (p := b.length + _ ≤ 1024) (by rw [get_neg h]; simp; omega), decide_eq_true (p := S.length < 128) (by omega)]; simp
  unfold appE appS; rw [this, get_neg h]; exact ⟨rfl, rfl⟩
theorem remS_off {S : DM} {n : Int} (h : hasM S n = false) : remS S n = S := by unfold remS; rw [h]; rfl
theorem remS_on {S : DM} {n : Int} (h : hasM S n = true) : remS S n = S.take (fnd S n).toNat ++ S.drop (fnd S n + 1).toNat ∨ fnd S n < 0 := by
  by_cases h2 : fnd S n < 0
  · exact .inr h2
  · refine .inl ?_
    unfold remS; rw [if_pos h, show (fnd S n + 1).toNat = (fnd S n).toNat + 1 by omega]
theorem DInv.perm {m S : DM} (h : DInv m) (hp : m.Perm S) : DInv S := ⟨(hp.map _).nodup_iff.1 h.keys, hp.length_eq ▸ h.few, fun p hm => h.seg p (hp.mem_iff.2 hm)⟩
theorem DInv.at_ {S : DM} (h : DInv S) {j : Nat} (hj : j < S.length) : 0 ≤ (gq S (j : Int)).2.2 ∧ (gq S (j : Int)).2.2 ≤ ((gq S (j : Int)).2.1.length : Int) ∧ (gq S (j : Int)).2.1.length ≤ 1024 := h.seg _ (by rw [← gq_at hj]; exact List.getElem_mem hj)
/-! ### Power -/
theorem key_gq {S : DM} {j : Nat} (hj : j < S.length) : gi (S.map (·.1)) (j : Int) = (gq S (j : Int)).1 := by
  have h1 := gi_some (xs := S.map (·.1)) (i := (j : Int)) (by omega) (by rw [List.length_map]; omega)
  rw [Int.toNat_natCast, List.getElem?_map, List.getElem?_eq_getElem hj, gq_at hj] at h1
  exact (Option.some.inj h1).symm
theorem get_gq {S : DM} (hk : Keys S) {j : Nat} (hj : j < S.length) : getM S (gq S (j : Int)).1 = (gq S (j : Int)).2 := by
  unfold getM
  rw [al_of_mem hk (x := (gq S (j : Int)).2) (by rw [← gq_at hj]; exact List.getElem_mem hj)]; rfl
/-- How much of the segment at a place power leaves. -/
def leftS (S : DM) (keep : List Int) (j : Nat) : Int := (gq S (j : Int)).2.2 + (if j < keep.length then rndI (gi keep (j : Int)) (((gq S (j : Int)).2.1.length : Int) - (gq S (j : Int)).2.2 + 1) else 0)
def powS (S : DM) (keep : List Int) (j : Nat) : DM := outL S (lft S keep (S.map (·.1)) j)
theorem lft_gq {S : DM} (hk : Keys S) (keep : List Int) {j : Nat} (hj : j < S.length) : lft S keep (S.map (·.1)) (j + 1) = lft S keep (S.map (·.1)) j ++ [((gq S (j : Int)).1, leftS S keep j)] := by
  unfold lft
  rw [List.range_succ, List.map_append]
  simp only [List.map_cons, List.map_nil]
  rw [key_gq hj]
  unfold keptI leftS
  rw [get_gq hk hj]
theorem pow_some {S : DM} (hk : Keys S) {keep : List Int} {j : Nat} (hj : j < S.length) (h : 0 < leftS S keep j) : powS S keep j ++ [((gq S (j : Int)).1, ((gq S (j : Int)).2.1.take (leftS S keep j).toNat, leftS S keep j))] = powS S keep (j + 1) := by
  unfold powS
  rw [lft_gq hk keep hj]
  unfold outL
  rw [List.filterMap_append]
  congr 1
  have : outF S ((gq S (j : Int)).1, leftS S keep j) = some ((gq S (j : Int)).1, ((gq S (j : Int)).2.1.take (leftS S keep j).toNat, leftS S keep j)) := by unfold outF; rw [if_pos h, get_gq hk hj]
  rw [List.filterMap_cons, this]; rfl
theorem pow_none {S : DM} (hk : Keys S) {keep : List Int} {j : Nat} (hj : j < S.length) (h : ¬ 0 < leftS S keep j) : powS S keep j = powS S keep (j + 1) := by
  unfold powS
  rw [lft_gq hk keep hj]
  unfold outL
  rw [List.filterMap_append]
  have : outF S ((gq S (j : Int)).1, leftS S keep j) = none := by unfold outF; rw [if_neg h]
  rw [List.filterMap_cons, this]
  simp
theorem pow_len (S : DM) (keep : List Int) {j : Nat} (hj : j ≤ S.length) : (powS S keep j).length ≤ j := by
  unfold powS outL
  exact Nat.le_trans (List.length_filterMap_le _ _) (by unfold lft; rw [List.length_map, List.length_range]; exact Nat.le_refl _)
theorem left_yes {S : DM} {keep : List Int} {j : Nat} (h : (j : Int) < keep.length) : (gq S (j : Int)).2.2 + rndI (gi keep (j : Int)) (((gq S (j : Int)).2.1.length : Int) - (gq S (j : Int)).2.2 + 1) = leftS S keep j := by unfold leftS; rw [if_pos (by omega)]
theorem left_no {S : DM} {keep : List Int} {j : Nat} (h : ¬ (j : Int) < keep.length) : (gq S (j : Int)).2.2 = leftS S keep j := by unfold leftS; rw [if_neg (by omega)]; omega
theorem left_range {S : DM} (h : DInv S) (keep : List Int) {j : Nat} (hj : j < S.length) : 0 ≤ leftS S keep j ∧ leftS S keep j ≤ ((gq S (j : Int)).2.1.length : Int) := by
  have := h.at_ hj
  unfold leftS
  split
  · have := rnd_range (c := gi keep (j : Int)) (n := ((gq S (j : Int)).2.1.length : Int) - (gq S (j : Int)).2.2 + 1) (by omega)
    omega
  · omega
theorem Mt.pow {m S mo : DM} (h : Mt m S) (hi : DInv m) (keep : List Int) (hp : mo.Perm (powL m keep)) : Mt mo (powS S keep S.length) := by
  have e1 : powL m keep = powS S keep S.length := by
    unfold powL powS
    rw [h.keysL_, List.length_map]
    have e2 : lft m keep (S.map (·.1)) S.length = lft S keep (S.map (·.1)) S.length := by
      unfold lft
      refine List.map_congr_left fun i _ => ?_
      unfold keptI
      rw [h.get]
    rw [e2]
    unfold outL
    have e4 : outF m = outF S := by
      funext p
      unfold outF
      rw [h.get]
    rw [e4]
  refine ⟨e1 ▸ hp, ?_⟩
  have hsub := out_sub S (lft S keep (S.map (·.1)) S.length)
  have e3 : (lft S keep (S.map (·.1)) S.length).map (·.1) = S.map (·.1) := by
    unfold lft
    rw [List.map_map]
    apply List.ext_getElem?
    intro i
    rw [List.getElem?_map, List.getElem?_map]
    by_cases hh : i < S.length
    · rw [List.getElem?_range hh, List.getElem?_eq_getElem hh]
      simp only [Option.map_some, Function.comp]
      rw [key_gq hh, gq_at hh]
    · rw [List.getElem?_eq_none (by rw [List.length_range]; omega), List.getElem?_eq_none (l := S) (by omega)]; rfl
  rw [e3] at hsub
  have hs : (S.map (·.1)).Pairwise (· < ·) := by rw [List.pairwise_map]; exact h.srt
  have := hs.sublist hsub
  rw [List.pairwise_map] at this
  exact this
end Go.Proofs.Ytkocinnoncacgaa.Dsk
