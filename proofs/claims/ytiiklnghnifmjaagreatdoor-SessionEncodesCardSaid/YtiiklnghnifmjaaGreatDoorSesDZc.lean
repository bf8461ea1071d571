/- Clients' requests: what is right, their bytes, their transaction, plain. -/
import Derived.Test.YtiiklnghnifmjaaGreatDoorMsgDZc
set_option linter.unusedVariables false
set_option linter.unusedSimpArgs false
namespace Go.Proofs.YtiiklnghnifmjaaGreatDoor.Act
open Go.RowKit Go.Proofs.YtiiklnghnifmjaaGreatDoor.Sx Go.Proofs.YtiiklnghnifmjaaGreatDoor.Cod Go.Proofs.YtiiklnghnifmjaaGreatDoor.Num
structure OpB (o : OpD) : Prop where
  kind : Fits o.kind
  key : Byte o.key
  step : StepB o.step
  timer : TimerB o.timer
structure SReqB (r : SReqD) : Prop where
  client : Byte r.client
  num : Fits r.num
  ops : ∀ o ∈ r.ops, OpB o
def zS : StepD := (0, [], [], 0)
def zT : TimerD := ⟨[], 0, 0, 0, []⟩
theorem zS_B : StepB zS := ⟨Byte.nil, Byte.nil, by decide⟩
theorem zT_B : TimerB zT := ⟨Byte.nil, by decide, by decide, by decide, fun s h => nomatch h⟩
/-- the timer with its version one up, as the machine counts -/
def verUp (t : TimerD) : TimerD := ⟨t.name, IntKind.i64.wrap (t.ver + 1), t.tick, t.every, t.steps⟩
def verOne (t : TimerD) : TimerD := ⟨t.name, 1, t.tick, t.every, t.steps⟩
theorem wrap_Fits (n : Int) : Fits (IntKind.i64.wrap n) := by
  rw [IntKind.wrap_i64]; unfold Fits; omega
theorem verUp_B {t : TimerD} (h : TimerB t) : TimerB (verUp t) := ⟨h.name, wrap_Fits _, h.tick, h.every, h.steps⟩
theorem verOne_B {t : TimerD} (h : TimerB t) : TimerB (verOne t) := ⟨h.name, (by decide : Fits (1 : Int)), h.tick, h.every, h.steps⟩
def overO (o : OpD) : Bool :=
  if o.kind = 1 ∨ o.kind = 4 then nameI o.key && (decide (o.step = zS) && bareT o.timer)
  else if o.kind = 2 then decide (o.key.length = 0) && (bareT o.timer && rightS o.step)
  else if o.kind = 3 then decide (o.key.length = 0) && (decide (o.step = zS) && (decide (IntKind.i64.wrap (o.timer.ver + 1) = 1) && rightT (verUp o.timer)))
  else false
def lockT (o : OpD) : List Int :=
  if overO o = true then (if o.kind = 1 then [107] ++ o.key else if o.kind = 4 then [116] ++ o.key else if o.kind = 3 then [116] ++ o.timer.name else if o.step.1 = 4 then [116] ++ o.step.2.1 else [107] ++ o.step.2.1)
  else []
def lockW (o : OpD) : Bool := if overO o = true then !(decide (o.kind = 1) || decide (o.kind = 4)) else false
def oursI (xs : List Int) : Bool := decide (xs.take 1 = [64])
def wrongO (o : OpD) : Bool := decide (lockT o = []) || (oursI ((lockT o).drop 1) || o.timer.steps.any fun s => oursI s.2.1)
theorem overO_parts {o : OpD} (hb : OpB o) (h : overO o = true) : ((o.kind = 1 ∨ o.kind = 4) ∧ nameI o.key = true ∧ o.step = zS ∧ o.timer = zT) ∨ (o.kind = 2 ∧ o.key = [] ∧ o.timer = zT ∧ rightS o.step = true) ∨ (o.kind = 3 ∧ o.key = [] ∧ o.step = zS ∧ o.timer.ver = 0 ∧ rightT (verUp o.timer) = true) := by
  unfold overO at h
  split at h
  · simp at h; exact .inl ⟨by assumption, h.1, h.2.1, bareT_parts h.2.2⟩
  · split at h
    · simp at h; exact .inr (.inl ⟨by assumption, h.1, bareT_parts h.2.1, h.2.2⟩)
    · split at h
      · simp at h
        refine .inr (.inr ⟨by assumption, h.1, h.2.1, ?_, h.2.2.2⟩)
        have := h.2.2.1
        have hf := hb.timer.ver
        rw [IntKind.wrap_i64] at this; unfold Fits at hf; omega
      · cases h
theorem verUp_one {t : TimerD} (h : t.ver = 0) : verUp t = verOne t := by unfold verUp verOne; rw [h]; rfl
/-! ### which is a client's -/
theorem lockT_no {o : OpD} (h : overO o = false) : lockT o = [] := by unfold lockT; rw [h]; rfl
theorem lockT_len {o : OpD} (hb : OpB o) (h : overO o = true) : 2 ≤ (lockT o).length ∧ (lockT o).length ≤ 17 := by
  unfold lockT
  rw [if_pos h]
  rcases overO_parts hb h with ⟨hk, hn, _, _⟩ | ⟨hk, _, _, hr⟩ | ⟨hk, _, _, _, hr⟩
  · have := nameI_parts hn
    split
    · simp; omega
    · rw [if_pos (by omega)]; simp; omega
  · have := key_len hr
    rw [if_neg (by omega), if_neg (by omega), if_neg (by omega)]
    split <;> (simp; omega)
  · have := rightT_parts hr
    unfold verUp at this
    dsimp only at this
    rw [if_neg (by omega), if_neg (by omega), if_pos hk]; simp; omega
theorem lockT_byte {o : OpD} (hb : OpB o) : Byte (lockT o) := by
  have one : ∀ (n : Int) (xs : List Int), 0 ≤ n → n < 256 → Byte xs → Byte ([n] ++ xs) := fun n xs h0 h1 hx m hm => by
    rw [List.mem_append, List.mem_singleton] at hm
    rcases hm with rfl | hm
    · exact ⟨h0, h1⟩
    · exact hx m hm
  unfold lockT
  split
  · split
    · exact one _ _ (by decide) (by decide) hb.key
    · split
      · exact one _ _ (by decide) (by decide) hb.key
      · split
        · exact one _ _ (by decide) (by decide) hb.timer.name
        · split
          · exact one _ _ (by decide) (by decide) hb.step.1
          · exact one _ _ (by decide) (by decide) hb.step.1
  · exact Byte.nil
theorem over_lens {o : OpD} (hb : OpB o) (h : overO o = true) : o.key.length ≤ 16 ∧ o.step.2.1.length ≤ 16 ∧ o.timer.name.length ≤ 16 := by
  rcases overO_parts hb h with ⟨_, hn, hs, ht⟩ | ⟨_, hn, ht, hr⟩ | ⟨_, hn, hs, _, hr⟩
  · have := nameI_parts hn
    rw [hs, ht]; exact ⟨by omega, by decide, by decide⟩
  · have := key_len hr
    rw [hn, ht]; exact ⟨by decide, by omega, by decide⟩
  · have := rightT_parts hr
    unfold verUp at this
    dsimp only at this
    rw [hn, hs]; exact ⟨by decide, by decide, by omega⟩
theorem keys_len {o : OpD} (hb : OpB o) (h : overO o = true) : ∀ s ∈ o.timer.steps, 1 ≤ s.2.1.length ∧ s.2.1.length ≤ 16 := by
  intro s hs
  rcases overO_parts hb h with ⟨_, _, _, ht⟩ | ⟨_, _, ht, _⟩ | ⟨_, _, _, _, hr⟩
  · rw [ht] at hs; cases hs
  · rw [ht] at hs; cases hs
  · have he := (rightT_parts hr).1
    exact key_len (List.all_eq_true.1 (enc0 he).2 s hs)
theorem wrongO_no {o : OpD} (hb : OpB o) (h : wrongO o = false) : overO o = true ∧ oursI ((lockT o).drop 1) = false ∧ ∀ s ∈ o.timer.steps, oursI s.2.1 = false := by
  unfold wrongO at h
  rw [Bool.or_eq_false_iff, Bool.or_eq_false_iff, decide_eq_false_iff_not] at h
  refine ⟨?_, h.2.1, fun s hs => ?_⟩
  · cases ho : overO o with
    | true => rfl
    | false => exact absurd (lockT_no ho) h.1
  · cases hq : oursI s.2.1 with
    | false => rfl
    | true => rw [List.any_eq_true.2 ⟨s, hs, hq⟩] at h; exact absurd h.2.2 (by decide)
theorem over_of {o : OpD} (h : ¬ (lockT o).length = 0) : overO o = true := by
  cases hq : overO o with
  | true => rfl
  | false => rw [lockT_no hq] at h; exact absurd rfl h
theorem any_take {α : Type} {p : α → Bool} {xs : List α} {k : Nat} {x : α} (hx : xs[k]? = some x) (h : (xs.take k).any p = false) (h1 : p x = false) : (xs.take (k + 1)).any p = false := by
  rw [List.take_add_one, hx, List.any_append, h]; simp [h1]
theorem any_hit {α : Type} {p : α → Bool} {xs : List α} {k : Nat} {x : α} (hx : xs[k]? = some x) (h1 : p x = true) : xs.any p = true :=
  List.any_eq_true.2 ⟨x, List.mem_of_getElem? hx, h1⟩
/-! ### which request is right -/
def rightQ (r : SReqD) : Bool :=
  decide (1 ≤ r.client.length) && (decide (r.client.length ≤ 15) && (decide (1 ≤ r.num) && (decide (r.num ≤ 1099511627776) && (decide (1 ≤ r.ops.length) && (decide (r.ops.length ≤ 14) && !r.ops.any wrongO)))))
theorem rightQ_parts {r : SReqD} (h : rightQ r = true) : 1 ≤ r.client.length ∧ r.client.length ≤ 15 ∧ 1 ≤ r.num ∧ r.num ≤ 1099511627776 ∧ 1 ≤ r.ops.length ∧ r.ops.length ≤ 14 ∧ ∀ o ∈ r.ops, wrongO o = false := by
  unfold rightQ at h
  simp only [Bool.and_eq_true, decide_eq_true_eq, Bool.not_eq_true'] at h
  refine ⟨h.1, h.2.1, h.2.2.1, h.2.2.2.1, h.2.2.2.2.1, h.2.2.2.2.2.1, fun o ho => ?_⟩
  cases hq : wrongO o with
  | false => rfl
  | true => rw [List.any_eq_true.2 ⟨o, ho, hq⟩] at h; exact absurd h.2.2.2.2.2.2 (by decide)
theorem rightQ_op {r : SReqD} (hb : SReqB r) (h : rightQ r = true) {o : OpD} (ho : o ∈ r.ops) : overO o = true := (wrongO_no (hb.ops o ho) ((rightQ_parts h).2.2.2.2.2.2 o ho)).1
/-! ### the bytes -/
def armC (o : OpD) : ChangeD := ⟨3, [], [], verOne o.timer⟩
theorem armC_B {o : OpD} (h : OpB o) : ChangeB (armC o) := ⟨(by decide : Fits (3 : Int)), Byte.nil, Byte.nil, verOne_B h.timer⟩
def opF (o : OpD) : List Fld := [(1, [o.kind]), if o.kind = 2 then (3, encT [o.step]) else if o.kind = 3 then (4, encC (armC o)) else (2, o.key)]
def opI (o : OpD) : List Int := encI (opF o)
def reqF (r : SReqD) : List Fld := [(1, r.client), (2, bI r.num)] ++ r.ops.map (fun o => (3, opI o))
def encQ (r : SReqD) : List Int := if rightQ r then encI (reqF r) ++ le4 (Crc.moreI 0 (encI (reqF r))) else []
def encQE (r : SReqD) : Int := if rightQ r then 0 else 221
theorem opF_2 {o : OpD} (h : o.kind = 2) : [((1, [o.kind]) : Fld), ((3, encT [o.step]) : Fld)] = opF o := by unfold opF; rw [if_pos h]
theorem opF_3 {o : OpD} (h2 : ¬ o.kind = 2) (h : o.kind = 3) : [((1, [o.kind]) : Fld), ((4, encC (armC o)) : Fld)] = opF o := by unfold opF; rw [if_neg h2, if_pos h]
theorem opF_1 {o : OpD} (h2 : ¬ o.kind = 2) (h : ¬ o.kind = 3) : [((1, [o.kind]) : Fld), ((2, o.key) : Fld)] = opF o := by unfold opF; rw [if_neg h2, if_neg h]
theorem armC_right {o : OpD} (hb : OpB o) (h : overO o = true) (hk : o.kind = 3) : rightC (armC o) = true := by
  rcases overO_parts hb h with ⟨h1, _⟩ | ⟨h1, _⟩ | ⟨_, _, _, hv, hr⟩
  · omega
  · omega
  · unfold rightC armC
    rw [← verUp_one hv]
    simp [hr]
theorem op_kind {o : OpD} (hb : OpB o) (h : overO o = true) : 1 ≤ o.kind ∧ o.kind ≤ 4 := by
  rcases overO_parts hb h with ⟨hk, _⟩ | ⟨hk, _⟩ | ⟨hk, _⟩ <;> omega
theorem opF_ok {o : OpD} (hb : OpB o) (h : overO o = true) : (opF o).all okF = true := by
  have h3 := encT_320 (l := [o.step]) (fun s hs => by rw [List.mem_singleton] at hs; subst hs; exact hb.step)
  have h4 := encC_len (armC_B hb)
  unfold opF
  rw [List.all_cons, List.all_cons, List.all_nil, Bool.and_true, Bool.and_eq_true]
  refine ⟨okF_of (by decide) (by decide) (by simp), ?_⟩
  split
  · exact okF_of (by decide) (by decide) (by omega)
  · split
    · exact okF_of (by decide) (by decide) (by omega)
    · refine okF_of (by decide) (by decide) ?_
      rcases overO_parts hb h with ⟨_, hn, _⟩ | ⟨_, hn, _⟩ | ⟨_, hn, _⟩
      · have := nameI_parts hn; omega
      · rw [hn]; simp
      · rw [hn]; simp
theorem opF_byte {o : OpD} (hb : OpB o) (h : overO o = true) : ∀ f ∈ opF o, Byte f.2 := by
  have hk := op_kind hb h
  unfold opF
  intro f hf
  simp only [List.mem_cons, List.not_mem_nil, or_false] at hf
  rcases hf with rfl | rfl
  · exact fun n hn => by rw [List.mem_singleton] at hn; subst hn; omega
  · split
    · exact encT_byte (fun s hs => by rw [List.mem_singleton] at hs; subst hs; exact hb.step)
    · split
      · exact encC_byte (armC_B hb)
      · exact hb.key
theorem op_encR {o : OpD} (hb : OpB o) (h : overO o = true) : encR (opF o) = some (opI o) := encR_all (by simp [opF]) (opF_ok hb h)
theorem opI_byte {o : OpD} (hb : OpB o) (h : overO o = true) : Byte (opI o) := byt_enc (opF_ok hb h) (opF_byte hb h)
theorem opI_len {o : OpD} (hb : OpB o) (h : overO o = true) : (opI o).length ≤ 600 := by
  have h3 := encT_320 (l := [o.step]) (fun s hs => by rw [List.mem_singleton] at hs; subst hs; exact hb.step)
  have h4 := encC_len (armC_B hb)
  have h5 : (o.key).length ≤ 16 := by
    rcases overO_parts hb h with ⟨_, hn, _⟩ | ⟨_, hn, _⟩ | ⟨_, hn, _⟩
    · have := nameI_parts hn; omega
    · rw [hn]; simp
    · rw [hn]; simp
  unfold opI opF
  rw [encI_len]
  split
  · simp; omega
  · split
    · simp; omega
    · simp; omega
theorem reqF_ok {r : SReqD} (hb : SReqB r) (h : rightQ r = true) : (reqF r).all okF = true ∧ (reqF r).length ≤ 16 := by
  have R := rightQ_parts h
  have b1 := bI_len r.num
  unfold reqF
  constructor
  · rw [List.all_append, Bool.and_eq_true]
    refine ⟨?_, ?_⟩
    · simp only [List.all_cons, List.all_nil, Bool.and_true, Bool.and_eq_true]
      exact ⟨okF_of (by decide) (by decide) (by omega), okF_of (by decide) (by decide) (by omega)⟩
    · rw [List.all_map, List.all_eq_true]
      intro o ho
      have := opI_len (hb.ops o ho) (rightQ_op hb h ho)
      exact okF_of (by decide) (by decide) (by omega)
  · simp; omega
theorem reqF_byte {r : SReqD} (hb : SReqB r) (h : rightQ r = true) : ∀ f ∈ reqF r, Byte f.2 := by
  unfold reqF
  intro f hf
  rw [List.mem_append] at hf
  rcases hf with hf | hf
  · simp only [List.mem_cons, List.not_mem_nil, or_false] at hf
    rcases hf with rfl | rfl
    · exact hb.client
    · exact bI_byte _
  · obtain ⟨o, ho, rfl⟩ := List.mem_map.1 hf
    exact opI_byte (hb.ops o ho) (rightQ_op hb h ho)
theorem req_encR {r : SReqD} (hb : SReqB r) (h : rightQ r = true) : encR (reqF r) = some (encI (reqF r)) := encR_all (by have := (reqF_ok hb h).2; omega) (reqF_ok hb h).1
theorem reqI_byte {r : SReqD} (hb : SReqB r) (h : rightQ r = true) : Byte (encI (reqF r)) := byt_enc (reqF_ok hb h).1 (reqF_byte hb h)
theorem reqI_len {r : SReqD} (hb : SReqB r) (h : rightQ r = true) : (encI (reqF r)).length ≤ 9000 := by
  have R := rightQ_parts h
  have b1 := bI_len r.num
  rw [encI_len]
  unfold reqF
  rw [List.map_append, List.sum_append]
  have key : ∀ l : List OpD, (∀ o ∈ l, OpB o ∧ overO o = true) → ((l.map (fun o => ((3, opI o) : Fld))).map (fun f => 3 + f.2.length)).sum ≤ 603 * l.length := by
    intro l
    induction l with
    | nil => intro _; simp
    | cons x l ih =>
      intro hl
      have h1 := opI_len (hl x (by simp)).1 (hl x (by simp)).2
      have h2 := ih (fun o ho => hl o (by simp [ho]))
      simp only [List.map_cons, List.sum_cons, List.length_cons]
      omega
  refine Nat.le_trans (Nat.add_le_add_left (key r.ops (fun o ho => ⟨hb.ops o ho, rightQ_op hb h ho⟩)) _) ?_
  simp only [List.map_cons, List.map_nil, List.sum_cons, List.sum_nil]
  omega
theorem encQ_byte {r : SReqD} (hb : SReqB r) : Byte (encQ r) := by
  unfold encQ
  split
  · rename_i h; exact (reqI_byte hb h : Byte _).app (le4_byte _)
  · exact Byte.nil
theorem encQ_yes {r : SReqD} (h : rightQ r = true) : encI (reqF r) ++ le4 (Crc.moreI 0 (encI (reqF r))) = encQ r := by unfold encQ; rw [if_pos h]
theorem encQ_no {r : SReqD} (h : rightQ r = false) : encQ r = [] := by unfold encQ; rw [h]; rfl
theorem encQE_no {r : SReqD} (h : rightQ r = false) : encQE r = 221 := by unfold encQE; rw [h]; rfl
theorem encQE_yes {r : SReqD} (h : rightQ r = true) : encQE r = 0 := by unfold encQE; rw [h]; rfl
theorem encQE0 {r : SReqD} (h : encQE r = 0) : rightQ r = true := by unfold encQE at h; split at h; assumption; cases h
theorem gopd_take {xs : List OpD} {k : Nat} (hk : (k : Int) < xs.length) : xs.take (k + 1) = xs.take k ++ [gopd xs (k : Int)] := by
  have h1 : k < xs.length := by omega
  have e : gopd xs (k : Int) = xs[k] := by simp [gopd, List.getD_eq_getElem?_getD, h1]
  rw [e, List.take_succ_eq_append_getElem h1]
theorem ops_stepL {xs : List OpD} {k : Nat} (hk : (k : Int) < xs.length) (pre : List Fld) : (pre ++ (xs.take k).map (fun o => ((3, opI o) : Fld))) ++ [((3, opI (gopd xs (k : Int))) : Fld)] = pre ++ (xs.take (k + 1)).map (fun o => ((3, opI o) : Fld)) := by
  rw [gopd_take hk, List.map_append, List.append_assoc]; rfl
/-! ### the transaction -/
def markO (r : SReqD) : OpD := ⟨1, [64] ++ r.client, zS, zT⟩
def putO (r : SReqD) : OpD := ⟨2, [], (1, [64] ++ r.client, itoaI r.num, 0), zT⟩
def wrapL (r : SReqD) : List OpD := if rightQ r then ([markO r] ++ r.ops) ++ [putO r] else []
theorem wrapL_yes {r : SReqD} (h : rightQ r = true) : ([markO r] ++ r.ops) ++ [putO r] = wrapL r := by unfold wrapL; rw [if_pos h]
theorem wrapL_no {r : SReqD} (h : rightQ r = false) : wrapL r = [] := by unfold wrapL; rw [h]; rfl
theorem wrap_step {r : SReqD} {k : Nat} (hk : (k : Int) < r.ops.length) : ([markO r] ++ r.ops.take k) ++ [gopd r.ops (k : Int)] = [markO r] ++ r.ops.take (k + 1) := by
  rw [gopd_take hk, List.append_assoc]
theorem steps_few {o : OpD} (hb : OpB o) (h : overO o = true) : o.timer.steps.length ≤ 100000000 := by
  rcases overO_parts hb h with ⟨_, _, _, ht⟩ | ⟨_, _, ht, _⟩ | ⟨_, _, _, _, hr⟩
  · rw [ht]; decide
  · rw [ht]; decide
  · have := (enc0 (rightT_parts hr).1).1
    unfold verUp at this
    dsimp only at this
    omega
def reqA : SReqD := ⟨[99], 5, [⟨1, [107], zS, zT⟩]⟩
theorem reqA_right : rightQ reqA = true := by decide
theorem reqA_B : SReqB reqA := ⟨byte_c [99] (by decide), by decide, fun o ho => by rw [show reqA.ops = [⟨1, [107], zS, zT⟩] from rfl, List.mem_singleton] at ho; subst ho; exact ⟨by decide, byte_c [107] (by decide), zS_B, zT_B⟩⟩
theorem reqA_len : (encQ reqA).length = 23 := by
  unfold encQ
  rw [if_pos reqA_right, List.length_append]
  have : (encI (reqF reqA)).length = 19 := by decide
  rw [this]; rfl
theorem wrapA : wrapL reqA = [⟨1, [64, 99], zS, zT⟩, ⟨1, [107], zS, zT⟩, ⟨2, [], (1, [64, 99], itoaI 5, 0), zT⟩] := by
  rw [← wrapL_yes reqA_right]; rfl
theorem itoa_5 : itoaI 5 = [53] := by
  unfold itoaI toI Lib.itoa; rw [if_neg (by decide)]; simp [Lib.decDigits]
end Go.Proofs.YtiiklnghnifmjaaGreatDoor.Act
