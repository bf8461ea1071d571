/- A request's transaction: what its law asks, plain. -/
import Derived.Test.YtiiklnghnifmjaaDoorSesD
set_option linter.unusedVariables false
namespace Go.Proofs.YtiiklnghnifmjaaDoor.Act
open Go.RowKit Go.Proofs.YtiiklnghnifmjaaDoor.Sx Go.Proofs.YtiiklnghnifmjaaDoor.Cod Go.Proofs.YtiiklnghnifmjaaDoor.Num
theorem wrap_len {r : SReqD} (h : rightQ r = true) : (wrapL r).length = r.ops.length + 2 := by
  rw [← wrapL_yes h]; simp
theorem wrap_mid {r : SReqD} (h : rightQ r = true) : ((wrapL r).take (((wrapL r).length : Int) - 1).toNat).drop (Int.toNat 1) = r.ops := by
  rw [show (((wrapL r).length : Int) - 1).toNat = ([markO r] ++ r.ops).length by rw [wrap_len h]; simp; omega, ← wrapL_yes h, List.take_left]
  rfl
theorem mark_B {r : SReqD} (hb : SReqB r) : OpB (markO r) := ⟨(by decide : Fits (1 : Int)), (byte_c [64] (by decide) : Byte _).app hb.client, zS_B, zT_B⟩
theorem put_B {r : SReqD} (hb : SReqB r) : OpB (putO r) := ⟨(by decide : Fits (2 : Int)), Byte.nil, ⟨(byte_c [64] (by decide) : Byte _).app hb.client, itoaI_byte _, (by decide : Fits (0 : Int))⟩, zT_B⟩
theorem wrap_mem {r : SReqD} (h : rightQ r = true) {o : OpD} (ho : o ∈ wrapL r) : o = markO r ∨ o ∈ r.ops ∨ o = putO r := by
  rw [← wrapL_yes h, List.mem_append, List.mem_append, List.mem_singleton, List.mem_singleton] at ho
  rcases ho with (h | h) | h
  · exact .inl h
  · exact .inr (.inl h)
  · exact .inr (.inr h)
theorem wrap_B {r : SReqD} (hb : SReqB r) (h : rightQ r = true) {o : OpD} (ho : o ∈ wrapL r) : OpB o := by
  rcases wrap_mem h ho with rfl | ho | rfl
  · exact mark_B hb
  · exact hb.ops o ho
  · exact put_B hb
theorem wrap_over {r : SReqD} (hb : SReqB r) (h : rightQ r = true) {o : OpD} (ho : o ∈ wrapL r) : overO o = true := by
  have R := rightQ_parts h
  have hm : nameI ([64] ++ r.client) = true := by unfold nameI; simp; omega
  rcases wrap_mem h ho with rfl | ho | rfl
  · unfold overO markO
    dsimp only
    rw [if_pos (.inl rfl), hm, decide_eq_true rfl, bare_z]
    rfl
  · exact rightQ_op hb h ho
  · have hl := itoaI_len hb.num
    have hr : rightS (1, [64] ++ r.client, itoaI r.num, 0) = true := by
      have h60 : (itoaI r.num).length ≤ 60 := by omega
      unfold rightS
      rw [if_pos rfl]
      show (nameI ([64] ++ r.client) && decide ((itoaI r.num).length ≤ 60) && decide ((0 : Int) = 0)) = true
      rw [hm, decide_eq_true h60]; rfl
    unfold overO putO
    dsimp only
    rw [if_neg (by decide), if_pos rfl, hr, bare_z]
    rfl
theorem wrap_0 {r : SReqD} (h : rightQ r = true) : gopd (wrapL r) 0 = markO r := by rw [← wrapL_yes h]; rfl
theorem wrap_last {r : SReqD} (h : rightQ r = true) : gopd (wrapL r) (((wrapL r).length : Int) - 1) = putO r := by
  unfold gopd
  rw [show (((wrapL r).length : Int) - 1).toNat = ([markO r] ++ r.ops).length by rw [wrap_len h]; simp; omega, ← wrapL_yes h]
  simp
theorem mark_wrong {r : SReqD} (h : rightQ r = true) : wrongO (markO r) = true := by
  have R := rightQ_parts h
  have hm : nameI ([64] ++ r.client) = true := by unfold nameI; simp; omega
  have ho : overO (markO r) = true := by
    unfold overO markO
    dsimp only
    rw [if_pos (.inl rfl), hm, decide_eq_true rfl, bare_z]
    rfl
  have hl : lockT (markO r) = [107] ++ ([64] ++ r.client) := by unfold lockT; rw [if_pos ho, if_pos (show (markO r).kind = 1 from rfl)]; rfl
  unfold wrongO
  rw [hl]
  simp [oursI]
def badQ (r : SReqD) : SReqD := ⟨r.client, r.num, [gopd (wrapL r) 0]⟩
theorem bad_no {r : SReqD} (h : rightQ r = true) : rightQ (badQ r) = false := by
  unfold rightQ badQ
  rw [wrap_0 h]
  simp [mark_wrong h]
theorem bad_B {r : SReqD} (hb : SReqB r) (h : rightQ r = true) : SReqB (badQ r) := ⟨hb.client, hb.num, fun o ho => by
  rw [show (badQ r).ops = [gopd (wrapL r) 0] from rfl, wrap_0 h, List.mem_singleton] at ho
  subst ho; exact mark_B hb⟩
end Go.Proofs.YtiiklnghnifmjaaDoor.Act
