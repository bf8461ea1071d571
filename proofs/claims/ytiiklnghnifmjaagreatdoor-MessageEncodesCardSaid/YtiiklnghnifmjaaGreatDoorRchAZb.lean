/- The document's messages, walked: which are right. -/
import Derived.Test.YtiiklnghnifmjaaGreatDoorMsgCZb
import Derived.Test.YtiiklnghnifmjaaGreatDoorRchDZb
import Derived.Test.YtiiklnghnifmjaaGreatDoorRbgDZb
set_option linter.unusedVariables false
set_option maxRecDepth 100000
set_option maxHeartbeats 1000000
set_option linter.unusedSimpArgs false
namespace Go.Proofs.YtiiklnghnifmjaaGreatDoor.Act
open Go.RowKit Go.Proofs.YtiiklnghnifmjaaGreatDoor.Sx Go.Proofs.YtiiklnghnifmjaaGreatDoor.Cod Go.Proofs.YtiiklnghnifmjaaGreatDoor.Num
theorem refEnc_at {w0 : World} {ok : Nat → Prop} {A : Option Addr} {xs : List Fld} {c : Nat} (hr : Rd FE w0 ok A xs c) {ys : List Int} (h : encR xs = some ys) : Calls Tryz.prog 34 #[.slice A xs.length c] w0 fun e w' => ∃ v er, e = .returned (.tuple #[v, .int .i64 er]) ∧ Mods (fun _ => False) w0 w' ∧ RowOut (.int .u8) 5 w0 w' v ys := by
 refine (refEnc_calls w0 hr).mono ?_
 rintro e w' ⟨v, he, h1, h2⟩
 rw [h] at h2
 exact ⟨v, _, he, h1, h2⟩
theorem raenc_calls (w0 : World) {ok : Nat → Prop} {A : Option Addr} {xs : List StepD} {c : Nat} (hr : Rd StE w0 ok A xs c) (hbs : ∀ s ∈ xs, StepB s) : Calls Tryz.prog 70 #[.slice A xs.length c] w0 fun e w' => ∃ v, e = .returned (.tuple #[v, .int .i64 (encE xs)]) ∧ Mods (fun _ => False) w0 w' ∧ RowOut (.int .u8) 5 w0 w' v (encT xs) := by
 refine cow Tryz.func70 rfl Tryz.ntmps70 (Nat.le_of_ble_eq_true rfl) fun a F => ?_
 have H := Hp.nil (fun _ => False) w0
 have H := H.arg 901 hr.all (fun _ h => ⟨h, fun h => h⟩)
 have hle901 := hr.le; unfold maxLen at hle901
 refine sr fun _ hK1 => ?_
 refine la F rfl (x_assign rfl) fun a F => ?_
 refine la F rfl (x_assign rfl) fun a F => ?_
 refine wn (hK1 _ _ ?_)
 refine wp_seq_k fun _ hK2 => ?_
 refine sr fun _ hK3 => ?_
 refine la F rfl (x_move (F.t 0 rfl)) fun a F => ?_
 refine la F rfl (x_len_slice Tryz.underlying62 (F.t 10 rfl)) fun a F => ?_
 refine la F rfl (x_gtr (F.t 11 rfl) rfl) fun a F => ?_
 refine wn (hK3 _ _ ?_)
 refine wp_cond_split (F.t 12 rfl) (fun hc12 => ?_) (fun hc12 => ?_)
 ·have hk12_1 := hc12; try simp only [bL] at hc12
  have hz := enc_many hc12
  refine sr fun _ hK4 => ?_
  refine la F rfl (x_assign rfl) fun a F => ?_
  refine la F rfl (x_assign rfl) fun a F => ?_
  refine wn (hK4 _ _ ?_)
  refine wp_ret ?_
  try simp only [Exit.then, Exit.inBlock]
  have hz2 := encT_0 (xs := xs) (by rw [hz]; decide)
  exact fin_ret F (res2 F rfl rfl rfl) ⟨.slice none 0 0, by rw [hz] <;> rfl, H.mods, by rw [hz2]; exact RowOut.nil _ _ _ _⟩
 have hk12_2 := hc12; try simp only [bL] at hc12
 refine wp_skip ?_
 refine hK2 _ _ ?_
 refine sr fun _ hK5 => ?_
 refine la F rfl (x_assign rfl) fun a F => ?_
 have H := H.row0 4 FE 57
 refine wn (hK5 _ _ ?_)
 refine wp_seq_k fun _ hK6 => ?_
 refine sr fun _ hK7 => ?_
 refine la F rfl (x_assign rfl) fun a F => ?_
 refine wn (hK7 _ _ ?_)
 refine wp_block ?_
 refine wp_loop_ghost (fun n_ a w => ∃ k : Nat, ∃ v4 : Value, ∃ okv : Nat → Prop, n_ = xs.length - k ∧ (k ≤ xs.length) ∧ ((xs.take k).all rightS = true) ∧ Fr 75 a [(0, .slice A xs.length c), (4, v4), (5, .int .i64 (k : Int))] ∧ Hp (fun _ => False) w0 w [(901, .rd_ StE A xs c (fun k => k < w0.heap.size)), (4, .row FE 57 v4 ((xs.take k).map fldS) okv)]) (xs.length) ?_ ?_
 ·exact ⟨0, .slice none 0 0, (fun _ => False), rfl, by omega, rfl, (((F.bare.add F 5 rfl).add F 4 rfl).add F 0 rfl), H.sub _ (sub_cons (sub_cons (sub_nil _) 4 rfl) 901 rfl)⟩
 rintro _ a w ⟨k, v4, okv, rfl, hq0_0, hq0_1, F, H⟩
 refine wp_seq_k fun _ hK8 => ?_
 refine sr fun _ hK9 => ?_
 refine la F rfl (x_move (F.t 5 rfl)) fun a F => ?_
 refine la F rfl (x_move (F.t 0 rfl)) fun a F => ?_
 refine la F rfl (x_len_slice Tryz.underlying62 (F.t 14 rfl)) fun a F => ?_
 refine la F rfl (x_lss (F.t 13 rfl) (F.t 15 rfl)) fun a F => ?_
 refine wn (hK9 _ _ ?_)
 refine wp_cond_split (F.t 16 rfl) (fun hc16 => ?_) (fun hc16 => ?_)
 ·have hk16_3 := hc16; try simp only [bL] at hc16
  refine wp_skip ?_
  refine hK8 _ _ ?_
  refine wp_seq_k fun _ hK10 => ?_
  refine wp_block ?_
  refine sr fun _ hK11 => ?_
  obtain ⟨hf1_0, hf1_1, hf1_2, hf1_3, hfw1⟩ := rd_st ((H.rd 901 rfl)) (gst_some (xs := xs) (i := (k : Int)) (by omega) (by omega))
  have H := H.subcels 901 rfl 1499 hfw1 (Rd.inok ((H.rd 901 rfl)) (by omega) _)
  have H := H.subcel 901 rfl 1500 hf1_0 (Rd.inok ((H.rd 901 rfl)) (by omega) _)
  have H := H.subcel 901 rfl 1501 hf1_1 (Rd.inok ((H.rd 901 rfl)) (by omega) _)
  have H := H.subcel 901 rfl 1502 hf1_2 (Rd.inok ((H.rd 901 rfl)) (by omega) _)
  have H := H.subcel 901 rfl 1503 hf1_3 (Rd.inok ((H.rd 901 rfl)) (by omega) _)
  have hmem := gst_mem (xs := xs) (j := k) (by omega)
  refine la F rfl (x_move (F.t 0 rfl)) fun a F => ?_
  refine la F rfl (x_move (F.t 5 rfl)) fun a F => ?_
  refine la F rfl (x_iaddr_A Tryz.underlying62 ty91 ((H.rd 901 rfl)) (F.t 19 rfl) (F.t 20 rfl) (by omega) (by omega) _) fun a F => ?_
  refine la F rfl (x_loadn ty91 (F.t 21 rfl) rfl (H.holds 1499 _ rfl)) fun a F => ?_
  refine lp rfl ?_
  refine w_call F (x_enter Tryz.func101 (by kernel_rfl) rfl (by simp only [bM, F.t 22 rfl] <;> rfl)) (rright_calls _ (gst xs (k : Int))) rfl rfl ?_
  rintro _ w ⟨rfl, hm_⟩; refine ⟨_, rfl, ?_⟩; clear F; intro a F; have H := H.same hm_
  refine la F rfl (x_assign (F.t 23 rfl)) fun a F => ?_
  refine wn (hK11 _ _ ?_)
  refine wp_seq_k fun _ hK12 => ?_
  refine sr fun _ hK13 => ?_
  refine la F rfl (x_move (F.t 6 rfl)) fun a F => ?_
  refine la F rfl (x_not (F.t 24 rfl)) fun a F => ?_
  refine wn (hK13 _ _ ?_)
  refine wp_cond_split (F.t 25 rfl) (fun hc25 => ?_) (fun hc25 => ?_)
  ·have hk25_4 := hc25; try simp only [bL] at hc25
   have hz := enc_bad hc12 (by omega) (by simpa using hc25)
   refine sr fun _ hK14 => ?_
   refine la F rfl (x_assign rfl) fun a F => ?_
   refine la F rfl (x_assign rfl) fun a F => ?_
   refine wn (hK14 _ _ ?_)
   refine wp_ret ?_
   try simp only [Exit.then, Exit.inBlock]
   have hz2 := encT_0 (xs := xs) (by rw [hz]; decide)
   exact fin_ret F (res2 F rfl rfl rfl) ⟨.slice none 0 0, by rw [hz] <;> rfl, H.mods, by rw [hz2]; exact RowOut.nil _ _ _ _⟩
  have hk25_5 := hc25; try simp only [bL] at hc25
  have hcr : rightS (gst xs (k : Int)) = true := by simpa using hc25
  refine wp_skip ?_
  refine hK12 _ _ ?_
  refine sr fun _ hK15 => ?_
  refine la F rfl (x_move (F.t 0 rfl)) fun a F => ?_
  refine la F rfl (x_move (F.t 5 rfl)) fun a F => ?_
  refine la F rfl (x_iaddr_A Tryz.underlying62 ty91 ((H.rd 901 rfl)) (F.t 26 rfl) (F.t 27 rfl) (by omega) (by omega) _) fun a F => ?_
  refine la F rfl (x_faddrA ((H.rd 901 rfl)) (by omega) _ Tryz.underlying91 rfl ty9 (by decide) (F.t 28 rfl) rfl) fun a F => ?_
  refine la F rfl (x_load1 ty9 (F.t 29 rfl) (H.holds 1502 _ rfl)) fun a F => ?_
  refine la F rfl (x_assign (F.t 30 rfl)) fun a F => ?_
  refine wn (hK15 _ _ ?_)
  refine wp_seq_k fun khK16 hK16 => ?_
  refine sr fun _ hK17 => ?_
  refine la F rfl (x_move (F.t 0 rfl)) fun a F => ?_
  refine la F rfl (x_move (F.t 5 rfl)) fun a F => ?_
  refine la F rfl (x_iaddr_A Tryz.underlying62 ty91 ((H.rd 901 rfl)) (F.t 31 rfl) (F.t 32 rfl) (by omega) (by omega) _) fun a F => ?_
  refine la F rfl (x_faddrA ((H.rd 901 rfl)) (by omega) _ Tryz.underlying91 rfl ty89 (by decide) (F.t 33 rfl) rfl) fun a F => ?_
  refine la F rfl (x_load1 ty89 (F.t 34 rfl) (H.holds 1500 _ rfl)) fun a F => ?_
  refine la F rfl (x_eql (F.t 35 rfl) rfl) fun a F => ?_
  refine wn (hK17 _ _ ?_)
  have hJ36 : ∀ a w, Fr 75 a [(0, .slice A xs.length c), (4, v4), (5, .int .i64 (k : Int)), (7, .string (strOfNums (restS (gst xs (k : Int)))))] → Hp (fun _ => False) w0 w [(901, .rd_ StE A xs c (fun k => k < w0.heap.size)), (4, .row FE 57 v4 ((xs.take k).map fldS) okv), (1499, .cels (adr A (Int.toNat (k : Int) * 4)) #[.int .i64 (gst xs (k : Int)).1, .string (strOfNums (gst xs (k : Int)).2.1), .string (strOfNums (gst xs (k : Int)).2.2.1), .int .i64 (gst xs (k : Int)).2.2.2]), (1500, .cel (adr A (Int.toNat (k : Int) * 4)) (.int .i64 (gst xs (k : Int)).1)), (1501, .cel (adr A (Int.toNat (k : Int) * 4 + 1)) (.string (strOfNums (gst xs (k : Int)).2.1))), (1502, .cel (adr A (Int.toNat (k : Int) * 4 + 2)) (.string (strOfNums (gst xs (k : Int)).2.2.1))), (1503, .cel (adr A (Int.toNat (k : Int) * 4 + 3)) (.int .i64 (gst xs (k : Int)).2.2.2))] → khK16 a w := by
   intro a w  F H
   refine hK16 a w ?_
   refine r_start [(901, .rd_ StE A xs c (fun k => k < w0.heap.size)), (1499, .cels (adr A (Int.toNat (k : Int) * 4)) #[.int .i64 (gst xs (k : Int)).1, .string (strOfNums (gst xs (k : Int)).2.1), .string (strOfNums (gst xs (k : Int)).2.2.1), .int .i64 (gst xs (k : Int)).2.2.2]), (1500, .cel (adr A (Int.toNat (k : Int) * 4)) (.int .i64 (gst xs (k : Int)).1)), (1501, .cel (adr A (Int.toNat (k : Int) * 4 + 1)) (.string (strOfNums (gst xs (k : Int)).2.1))), (1502, .cel (adr A (Int.toNat (k : Int) * 4 + 2)) (.string (strOfNums (gst xs (k : Int)).2.2.1))), (1503, .cel (adr A (Int.toNat (k : Int) * 4 + 3)) (.int .i64 (gst xs (k : Int)).2.2.2))] (by kernel_rfl) H fun H => ?_
   have hS : SL [(901, .rd_ StE A xs c (fun k => k < w0.heap.size)), (1499, .cels (adr A (Int.toNat (k : Int) * 4)) #[.int .i64 (gst xs (k : Int)).1, .string (strOfNums (gst xs (k : Int)).2.1), .string (strOfNums (gst xs (k : Int)).2.2.1), .int .i64 (gst xs (k : Int)).2.2.2]), (1500, .cel (adr A (Int.toNat (k : Int) * 4)) (.int .i64 (gst xs (k : Int)).1)), (1501, .cel (adr A (Int.toNat (k : Int) * 4 + 1)) (.string (strOfNums (gst xs (k : Int)).2.1))), (1502, .cel (adr A (Int.toNat (k : Int) * 4 + 2)) (.string (strOfNums (gst xs (k : Int)).2.2.1))), (1503, .cel (adr A (Int.toNat (k : Int) * 4 + 3)) (.int .i64 (gst xs (k : Int)).2.2.2))] _ := SL.of H (sub_cons (sub_cons (sub_cons (sub_cons (sub_cons (sub_cons (sub_nil _) 1503 rfl) 1502 rfl) 1501 rfl) 1500 rfl) 1499 rfl) 901 rfl)
   refine rT 0 F rfl (by kernel_rfl) pq rfl hS (fun w hS => x_move (F.t 4 rfl)) rfl fun a F => ?_
   refine rT 1 F rfl (by kernel_rfl) pq rfl hS (fun w hS => x_move (F.t 0 rfl)) rfl fun a F => ?_
   refine rT 2 F rfl (by kernel_rfl) pq rfl hS (fun w hS => x_move (F.t 5 rfl)) rfl fun a F => ?_
   refine rT 3 F rfl (by kernel_rfl) pq rfl hS (fun w hS => x_iaddr_A Tryz.underlying62 ty91 ((H.rd 901 rfl)) (F.t 44 rfl) (F.t 45 rfl) (by omega) (by omega) _) rfl fun a F => ?_
   refine rT 4 F rfl (by kernel_rfl) pq rfl hS (fun w hS => x_faddrA ((SL.rd hS 901 rfl)) (by omega) _ Tryz.underlying91 rfl ty89 (by decide) (F.t 46 rfl) rfl) rfl fun a F => ?_
   refine rT 5 F rfl (by kernel_rfl) pq rfl hS (fun w hS => x_load1 ty89 (F.t 47 rfl) (hS 1500 _ rfl)) rfl fun a F => ?_
   refine rT 6 F rfl (by kernel_rfl) pq rfl hS (fun w hS => x_move (F.t 0 rfl)) rfl fun a F => ?_
   refine rT 7 F rfl (by kernel_rfl) pq rfl hS (fun w hS => x_move (F.t 5 rfl)) rfl fun a F => ?_
   refine rT 8 F rfl (by kernel_rfl) pq rfl hS (fun w hS => x_iaddr_A Tryz.underlying62 ty91 ((H.rd 901 rfl)) (F.t 49 rfl) (F.t 50 rfl) (by omega) (by omega) _) rfl fun a F => ?_
   refine rT 9 F rfl (by kernel_rfl) pq rfl hS (fun w hS => x_faddrA ((SL.rd hS 901 rfl)) (by omega) _ Tryz.underlying91 rfl ty9 (by decide) (F.t 51 rfl) rfl) rfl fun a F => ?_
   refine rT 10 F rfl (by kernel_rfl) pq rfl hS (fun w hS => x_load1 ty9 (F.t 52 rfl) (hS 1501 _ rfl)) rfl fun a F => ?_
   refine rT 11 F rfl (by kernel_rfl) pq rfl hS (fun w hS => x_len_sn (xs := ((gst xs (k : Int)).2.1)) Tryz.underlying9 (F.t 53 rfl)) rfl fun a F => ?_
   refine rT 12 F rfl (by kernel_rfl) pq rfl hS (fun w hS => x_conv Tryz.underlying5 ⟨_, Tryz.underlying3⟩ (F.t 54 rfl) (key_wrap hcr)) rfl fun a F => ?_
   refine rT 14 F rfl (by kernel_rfl) pq rfl hS (fun w hS => x_move (F.t 0 rfl)) rfl fun a F => ?_
   refine rT 15 F rfl (by kernel_rfl) pq rfl hS (fun w hS => x_move (F.t 5 rfl)) rfl fun a F => ?_
   refine rT 16 F rfl (by kernel_rfl) pq rfl hS (fun w hS => x_iaddr_A Tryz.underlying62 ty91 ((H.rd 901 rfl)) (F.t 57 rfl) (F.t 58 rfl) (by omega) (by omega) _) rfl fun a F => ?_
   refine rT 17 F rfl (by kernel_rfl) pq rfl hS (fun w hS => x_faddrA ((SL.rd hS 901 rfl)) (by omega) _ Tryz.underlying91 rfl ty9 (by decide) (F.t 59 rfl) rfl) rfl fun a F => ?_
   refine rT 18 F rfl (by kernel_rfl) pq rfl hS (fun w hS => x_load1 ty9 (F.t 60 rfl) (hS 1501 _ rfl)) rfl fun a F => ?_
   refine rT 19 F rfl (by kernel_rfl) pq rfl hS (fun w hS => x_move (F.t 7 rfl)) rfl fun a F => ?_
   refine rT 20 F rfl (by kernel_rfl) pq rfl hS (fun w hS => x_adds (xs := ((gst xs (k : Int)).2.1)) (ys := (restS (gst xs (k : Int)))) (F.t 61 rfl) (F.t 62 rfl) (by have := key_len hcr; have := restS_len hcr (hbs _ hmem); omega)) rfl fun a F => ?_
   refine r_do2 13 21 rfl rfl (by kernel_rfl) rfl rfl rfl rfl ?_ ?_
   ·
    refine w_lit 40 (enc := Value.int .u8) (h1 := fun _ => rfl) ([((gst xs (k : Int)).2.1.length : Int)]) F H rfl Tryz.underlying27 ty5 (by simp only [bM, F.t 55 rfl]; rfl) rfl (by decide) (by decide) (by kernel_rfl) ?_
    clear F H; intro a w b56 F H
    refine aN (SL.of H (sub_cons (sub_cons (sub_cons (sub_cons (sub_cons (sub_cons (sub_nil _) 1503 rfl) 1502 rfl) 1501 rfl) 1500 rfl) 1499 rfl) 901 rfl)) fun hS => ?_
    refine r_do 21 rfl (by kernel_rfl) rfl rfl ?_
    refine w_s2b 64 (xs := (((gst xs (k : Int)).2.1) ++ (restS (gst xs (k : Int))))) F H rfl Tryz.underlying9 Tryz.underlying27 Tryz.underlying5 (F.t 63 rfl) ((hbs _ hmem).1.app (restS_byte (hbs _ hmem))) (by have := key_len hcr; have := restS_len hcr (hbs _ hmem); simp only [List.length_append]; omega) ?_
    clear F H; intro a w b64 c64 hb64_ F H
    refine aN (SL.of H (sub_cons (sub_cons (sub_cons (sub_cons (sub_cons (sub_cons (sub_nil _) 1503 rfl) 1502 rfl) 1501 rfl) 1500 rfl) 1499 rfl) 901 rfl)) fun hS => ?_
    refine r_do 22 rfl (by kernel_rfl) rfl rfl ?_
    refine w_append 40 64 (xs := ([((gst xs (k : Int)).2.1.length : Int)])) (ys := (((gst xs (k : Int)).2.1) ++ (restS (gst xs (k : Int))))) F H rfl Tryz.underlying27 ty5 rfl rfl rfl rfl ((H.rd 64 rfl)) oI (F.t 56 rfl) (F.t 64 rfl) (by have := key_len hcr; have := restS_len hcr (hbs _ hmem); simp only [List.length_cons, List.length_nil, List.length_append]; omega) (by have := key_len hcr; have := restS_len hcr (hbs _ hmem); simp only [List.length_cons, List.length_nil, List.length_append, maxLen]; omega) (fun _ => False) (fun w' v' h => row_flat h _) (fun k_ hk_ => hk_.elim) ?_
    clear F H; intro a w v65 F H
    refine aN (SL.of H (sub_cons (sub_cons (sub_cons (sub_cons (sub_cons (sub_cons (sub_nil _) 1503 rfl) 1502 rfl) 1501 rfl) 1500 rfl) 1499 rfl) 901 rfl)) fun hS => ?_
    obtain ⟨A65, c65, rfl⟩ := (H.row 40 rfl).form
    have H := H.freeze 40 rfl (fun kb => (Value.slice A65 (([((gst xs (k : Int)).2.1.length : Int)]) ++ (((gst xs (k : Int)).2.1) ++ (restS (gst xs (k : Int))))).length c65).ownBlock = some kb) (fun kb => ⟨fun h => .inr h, fun h => h.resolve_left id⟩)
    refine rT 23 F rfl (by kernel_rfl) pq rfl hS (fun w hS => x_buildS (cells := #[.int .i64 (gst xs (k : Int)).1, .slice A65 (([((gst xs (k : Int)).2.1.length : Int)]) ++ (((gst xs (k : Int)).2.1) ++ (restS (gst xs (k : Int))))).length c65]) (places := #[(0, 1), (1, 1)]) Tryz.underlying57 ty57 (by kernel_rfl) (by simp only [bM, F.t 48 rfl, F.t 65 rfl] <;> rfl) rfl) rfl fun a F => ?_
    refine r_do 24 rfl (by kernel_rfl) rfl rfl ?_
    refine w_lit1 67 FE (((gst xs (k : Int)).1, (([((gst xs (k : Int)).2.1.length : Int)]) ++ (((gst xs (k : Int)).2.1) ++ (restS (gst xs (k : Int)))))) : Fld) #[.int .i64 ((gst xs (k : Int)).1), .slice A65 (([((gst xs (k : Int)).2.1.length : Int)]) ++ (((gst xs (k : Int)).2.1) ++ (restS (gst xs (k : Int))))).length c65] (fun kb => (Value.slice A65 (([((gst xs (k : Int)).2.1.length : Int)]) ++ (((gst xs (k : Int)).2.1) ++ (restS (gst xs (k : Int))))).length c65).ownBlock = some kb) F H rfl Tryz.underlying60 ty57 (by simp only [bM, F.t 66 rfl] <;> rfl) (by decide) (by kernel_rfl) (fld_mk (f := (((gst xs (k : Int)).1, (([((gst xs (k : Int)).2.1.length : Int)]) ++ (((gst xs (k : Int)).2.1) ++ (restS (gst xs (k : Int)))))) : Fld)) ((H.rd 40 rfl))) (fun kb hk => ⟨40, _, rfl, hk⟩) ?_
    clear F H; intro a w b67 F hb67_ H
    refine aN (SL.of H (sub_cons (sub_cons (sub_cons (sub_cons (sub_cons (sub_cons (sub_nil _) 1503 rfl) 1502 rfl) 1501 rfl) 1500 rfl) 1499 rfl) 901 rfl)) fun hS => ?_
    refine r_do 25 rfl (by kernel_rfl) rfl rfl ?_
    refine w_append 4 67 (xs := ((xs.take k).map fldS)) (ys := ([(((gst xs (k : Int)).1, (([((gst xs (k : Int)).2.1.length : Int)]) ++ (((gst xs (k : Int)).2.1) ++ (restS (gst xs (k : Int)))))) : Fld)])) F H rfl Tryz.underlying60 ty57 rfl rfl rfl rfl ((H.rd 67 rfl)) oI (F.t 43 rfl) (F.t 67 rfl) (by simp only [lN] at *; omega) (by simp only [lN, maxLen] at *; omega) (fun kb => okv kb ∨ (fun kb => (fun kb => (Value.slice A65 (([((gst xs (k : Int)).2.1.length : Int)]) ++ (((gst xs (k : Int)).2.1) ++ (restS (gst xs (k : Int))))).length c65).ownBlock = some kb) kb ∨ kb = b67) kb) (fun w' v' h => h) (by rintro k_ (hk_ | hk_); exact .inl hk_; exact .inr hk_) ?_
    clear F H; intro a w v68 F H
    refine aN (SL.of H (sub_cons (sub_cons (sub_cons (sub_cons (sub_cons (sub_cons (sub_nil _) 1503 rfl) 1502 rfl) 1501 rfl) 1500 rfl) 1499 rfl) 901 rfl)) fun hS => ?_
    refine rT 26 F rfl (by kernel_rfl) pq rfl hS (fun w hS => x_assign (F.t 68 rfl)) rfl fun a F => ?_
    refine r_end (by kernel_rfl) ?_; clear hS
    refine hK10 _ _ ?_
    refine wp_region_lit ?_
    refine la F rfl (x_move (F.t 5 rfl)) fun a F => ?_
    refine la F rfl (x_add (F.t 17 rfl) rfl (w64 (by omega) (by omega))) fun a F => ?_
    refine la F rfl (x_assign (F.t 18 rfl)) fun a F => ?_
    refine wpList_nil ?_
    have hHs : Hp (fun _ => False) w0 w [(901, .rd_ StE A xs c (fun k => k < w0.heap.size)), (4, .row FE 57 v68 (((xs.take k).map fldS) ++ [(((gst xs (k : Int)).1, ([(((gst xs (k : Int)).2.1.length : Int))] ++ ((gst xs (k : Int)).2.1 ++ restS (gst xs (k : Int))))) : Fld)]) (fun kb => okv kb ∨ (fun kb => (fun kb => (Value.slice A65 (([((gst xs (k : Int)).2.1.length : Int)]) ++ (((gst xs (k : Int)).2.1) ++ (restS (gst xs (k : Int))))).length c65).ownBlock = some kb) kb ∨ kb = b67) kb))] := H.sub _ (sub_cons (sub_cons (sub_nil _) 4 rfl) 901 rfl)
    rw [show ((xs.take k).map fldS) ++ [(((gst xs (k : Int)).1, ([(((gst xs (k : Int)).2.1.length : Int))] ++ ((gst xs (k : Int)).2.1 ++ restS (gst xs (k : Int))))) : Fld)] = (xs.take (k + 1)).map fldS from fld_stepL hc16] at hHs
    exact ⟨_, by omega, ⟨k + 1, v68, (fun kb => okv kb ∨ (fun kb => (fun kb => (Value.slice A65 (([((gst xs (k : Int)).2.1.length : Int)]) ++ (((gst xs (k : Int)).2.1) ++ (restS (gst xs (k : Int))))).length c65).ownBlock = some kb) kb ∨ kb = b67) kb), rfl, by omega, right_step hc16 hq0_1 hcr, (((F.bare.add F 5 rfl).add F 4 rfl).add F 0 rfl), hHs⟩⟩
   ·
    refine w_s2b 64 (xs := (((gst xs (k : Int)).2.1) ++ (restS (gst xs (k : Int))))) F H rfl Tryz.underlying9 Tryz.underlying27 Tryz.underlying5 (F.t 63 rfl) ((hbs _ hmem).1.app (restS_byte (hbs _ hmem))) (by have := key_len hcr; have := restS_len hcr (hbs _ hmem); simp only [List.length_append]; omega) ?_
    clear F H; intro a w b64 c64 hb64_ F H
    refine aN (SL.of H (sub_cons (sub_cons (sub_cons (sub_cons (sub_cons (sub_cons (sub_nil _) 1503 rfl) 1502 rfl) 1501 rfl) 1500 rfl) 1499 rfl) 901 rfl)) fun hS => ?_
    refine r_do 13 rfl (by kernel_rfl) rfl rfl ?_
    refine w_lit 40 (enc := Value.int .u8) (h1 := fun _ => rfl) ([((gst xs (k : Int)).2.1.length : Int)]) F H rfl Tryz.underlying27 ty5 (by simp only [bM, F.t 55 rfl]; rfl) rfl (by decide) (by decide) (by kernel_rfl) ?_
    clear F H; intro a w b56 F H
    refine aN (SL.of H (sub_cons (sub_cons (sub_cons (sub_cons (sub_cons (sub_cons (sub_nil _) 1503 rfl) 1502 rfl) 1501 rfl) 1500 rfl) 1499 rfl) 901 rfl)) fun hS => ?_
    refine r_do 22 rfl (by kernel_rfl) rfl rfl ?_
    refine w_append 40 64 (xs := ([((gst xs (k : Int)).2.1.length : Int)])) (ys := (((gst xs (k : Int)).2.1) ++ (restS (gst xs (k : Int))))) F H rfl Tryz.underlying27 ty5 rfl rfl rfl rfl ((H.rd 64 rfl)) oI (F.t 56 rfl) (F.t 64 rfl) (by have := key_len hcr; have := restS_len hcr (hbs _ hmem); simp only [List.length_cons, List.length_nil, List.length_append]; omega) (by have := key_len hcr; have := restS_len hcr (hbs _ hmem); simp only [List.length_cons, List.length_nil, List.length_append, maxLen]; omega) (fun _ => False) (fun w' v' h => row_flat h _) (fun k_ hk_ => hk_.elim) ?_
    clear F H; intro a w v65 F H
    refine aN (SL.of H (sub_cons (sub_cons (sub_cons (sub_cons (sub_cons (sub_cons (sub_nil _) 1503 rfl) 1502 rfl) 1501 rfl) 1500 rfl) 1499 rfl) 901 rfl)) fun hS => ?_
    obtain ⟨A65, c65, rfl⟩ := (H.row 40 rfl).form
    have H := H.freeze 40 rfl (fun kb => (Value.slice A65 (([((gst xs (k : Int)).2.1.length : Int)]) ++ (((gst xs (k : Int)).2.1) ++ (restS (gst xs (k : Int))))).length c65).ownBlock = some kb) (fun kb => ⟨fun h => .inr h, fun h => h.resolve_left id⟩)
    refine rT 23 F rfl (by kernel_rfl) pq rfl hS (fun w hS => x_buildS (cells := #[.int .i64 (gst xs (k : Int)).1, .slice A65 (([((gst xs (k : Int)).2.1.length : Int)]) ++ (((gst xs (k : Int)).2.1) ++ (restS (gst xs (k : Int))))).length c65]) (places := #[(0, 1), (1, 1)]) Tryz.underlying57 ty57 (by kernel_rfl) (by simp only [bM, F.t 48 rfl, F.t 65 rfl] <;> rfl) rfl) rfl fun a F => ?_
    refine r_do 24 rfl (by kernel_rfl) rfl rfl ?_
    refine w_lit1 67 FE (((gst xs (k : Int)).1, (([((gst xs (k : Int)).2.1.length : Int)]) ++ (((gst xs (k : Int)).2.1) ++ (restS (gst xs (k : Int)))))) : Fld) #[.int .i64 ((gst xs (k : Int)).1), .slice A65 (([((gst xs (k : Int)).2.1.length : Int)]) ++ (((gst xs (k : Int)).2.1) ++ (restS (gst xs (k : Int))))).length c65] (fun kb => (Value.slice A65 (([((gst xs (k : Int)).2.1.length : Int)]) ++ (((gst xs (k : Int)).2.1) ++ (restS (gst xs (k : Int))))).length c65).ownBlock = some kb) F H rfl Tryz.underlying60 ty57 (by simp only [bM, F.t 66 rfl] <;> rfl) (by decide) (by kernel_rfl) (fld_mk (f := (((gst xs (k : Int)).1, (([((gst xs (k : Int)).2.1.length : Int)]) ++ (((gst xs (k : Int)).2.1) ++ (restS (gst xs (k : Int)))))) : Fld)) ((H.rd 40 rfl))) (fun kb hk => ⟨40, _, rfl, hk⟩) ?_
    clear F H; intro a w b67 F hb67_ H
    refine aN (SL.of H (sub_cons (sub_cons (sub_cons (sub_cons (sub_cons (sub_cons (sub_nil _) 1503 rfl) 1502 rfl) 1501 rfl) 1500 rfl) 1499 rfl) 901 rfl)) fun hS => ?_
    refine r_do 25 rfl (by kernel_rfl) rfl rfl ?_
    refine w_append 4 67 (xs := ((xs.take k).map fldS)) (ys := ([(((gst xs (k : Int)).1, (([((gst xs (k : Int)).2.1.length : Int)]) ++ (((gst xs (k : Int)).2.1) ++ (restS (gst xs (k : Int)))))) : Fld)])) F H rfl Tryz.underlying60 ty57 rfl rfl rfl rfl ((H.rd 67 rfl)) oI (F.t 43 rfl) (F.t 67 rfl) (by simp only [lN] at *; omega) (by simp only [lN, maxLen] at *; omega) (fun kb => okv kb ∨ (fun kb => (fun kb => (Value.slice A65 (([((gst xs (k : Int)).2.1.length : Int)]) ++ (((gst xs (k : Int)).2.1) ++ (restS (gst xs (k : Int))))).length c65).ownBlock = some kb) kb ∨ kb = b67) kb) (fun w' v' h => h) (by rintro k_ (hk_ | hk_); exact .inl hk_; exact .inr hk_) ?_
    clear F H; intro a w v68 F H
    refine aN (SL.of H (sub_cons (sub_cons (sub_cons (sub_cons (sub_cons (sub_cons (sub_nil _) 1503 rfl) 1502 rfl) 1501 rfl) 1500 rfl) 1499 rfl) 901 rfl)) fun hS => ?_
    refine rT 26 F rfl (by kernel_rfl) pq rfl hS (fun w hS => x_assign (F.t 68 rfl)) rfl fun a F => ?_
    refine r_end (by kernel_rfl) ?_; clear hS
    refine hK10 _ _ ?_
    refine wp_region_lit ?_
    refine la F rfl (x_move (F.t 5 rfl)) fun a F => ?_
    refine la F rfl (x_add (F.t 17 rfl) rfl (w64 (by omega) (by omega))) fun a F => ?_
    refine la F rfl (x_assign (F.t 18 rfl)) fun a F => ?_
    refine wpList_nil ?_
    have hHs : Hp (fun _ => False) w0 w [(901, .rd_ StE A xs c (fun k => k < w0.heap.size)), (4, .row FE 57 v68 (((xs.take k).map fldS) ++ [(((gst xs (k : Int)).1, ([(((gst xs (k : Int)).2.1.length : Int))] ++ ((gst xs (k : Int)).2.1 ++ restS (gst xs (k : Int))))) : Fld)]) (fun kb => okv kb ∨ (fun kb => (fun kb => (Value.slice A65 (([((gst xs (k : Int)).2.1.length : Int)]) ++ (((gst xs (k : Int)).2.1) ++ (restS (gst xs (k : Int))))).length c65).ownBlock = some kb) kb ∨ kb = b67) kb))] := H.sub _ (sub_cons (sub_cons (sub_nil _) 4 rfl) 901 rfl)
    rw [show ((xs.take k).map fldS) ++ [(((gst xs (k : Int)).1, ([(((gst xs (k : Int)).2.1.length : Int))] ++ ((gst xs (k : Int)).2.1 ++ restS (gst xs (k : Int))))) : Fld)] = (xs.take (k + 1)).map fldS from fld_stepL hc16] at hHs
    exact ⟨_, by omega, ⟨k + 1, v68, (fun kb => okv kb ∨ (fun kb => (fun kb => (Value.slice A65 (([((gst xs (k : Int)).2.1.length : Int)]) ++ (((gst xs (k : Int)).2.1) ++ (restS (gst xs (k : Int))))).length c65).ownBlock = some kb) kb ∨ kb = b67) kb), rfl, by omega, right_step hc16 hq0_1 hcr, (((F.bare.add F 5 rfl).add F 4 rfl).add F 0 rfl), hHs⟩⟩
  refine wp_cond_split (F.t 36 rfl) (fun hc36 => ?_) (fun hc36 => ?_)
  ·have hk36_6 := hc36; try simp only [bL] at hc36
   refine wp_region_lit ?_
   refine la F rfl (x_move (F.t 0 rfl)) fun a F => ?_
   refine la F rfl (x_move (F.t 5 rfl)) fun a F => ?_
   refine la F rfl (x_iaddr_A Tryz.underlying62 ty91 ((H.rd 901 rfl)) (F.t 37 rfl) (F.t 38 rfl) (by omega) (by omega) _) fun a F => ?_
   refine la F rfl (x_faddrA ((H.rd 901 rfl)) (by omega) _ Tryz.underlying91 rfl ty2 (by decide) (F.t 39 rfl) rfl) fun a F => ?_
   refine la F rfl (x_load1 ty2 (F.t 40 rfl) (H.holds 1503 _ rfl)) fun a F => ?_
   refine lp rfl ?_
   refine w_call F (x_enter Tryz.func61 (by kernel_rfl) rfl (by simp only [bM, F.t 41 rfl] <;> rfl)) (text_calls _ (hbs _ hmem).2.2) rfl rfl ?_
   rintro _ w ⟨rfl, hm_⟩; refine ⟨_, rfl, ?_⟩; clear F; intro a F; have H := H.same hm_
   refine la F rfl (x_assign (F.t 42 rfl)) fun a F => ?_
   rw [restS_add hc36] at F
   refine wpList_nil ?_
   exact hJ36 _ _  ((((F.bare.add F 7 rfl).add F 5 rfl).add F 4 rfl).add F 0 rfl) (H.sub _ (sub_cons (sub_cons (sub_cons (sub_cons (sub_cons (sub_cons (sub_cons (sub_nil _) 1503 rfl) 1502 rfl) 1501 rfl) 1500 rfl) 1499 rfl) 4 rfl) 901 rfl))
  have hk36_7 := hc36; try simp only [bL] at hc36
  rw [restS_val hc36] at F
  refine wp_skip ?_
  exact hJ36 _ _  ((((F.bare.add F 7 rfl).add F 5 rfl).add F 4 rfl).add F 0 rfl) (H.sub _ (sub_cons (sub_cons (sub_cons (sub_cons (sub_cons (sub_cons (sub_cons (sub_nil _) 1503 rfl) 1502 rfl) 1501 rfl) 1500 rfl) 1499 rfl) 4 rfl) 901 rfl))
 have hk16_8 := hc16; try simp only [bL] at hc16
 refine wp_exit ?_
 refine hK6 _ _ ?_
 refine sr fun _ hK18 => ?_
 obtain rfl : k = xs.length := by omega
 rw [List.take_length] at hq0_1 H
 obtain ⟨Av, cv, rfl⟩ := (H.row 4 rfl).form
 refine la F rfl (x_move (F.t 4 rfl)) fun a F => ?_
 refine lp rfl ?_
 refine w_call F (x_enter Tryz.func34 (by kernel_rfl) rfl (by simp only [bM, F.t 70 rfl] <;> rfl)) (refEnc_at (xs := xs.map fldS) (Row.rd (ok' := fun k_ => okv k_ ∨ (.slice Av ((xs.map fldS)).length cv : Value).ownBlock = some k_) (H.row 4 rfl) (fun _ hk_ _ => .inl hk_) (fun _ hk_ => .inr hk_)) (encR_of hc12 hq0_1 hbs)) rfl rfl ?_
 rintro _ w ⟨vr71, er71, rfl, hm_, hr_⟩; refine ⟨_, rfl, ?_⟩; clear F; intro a F; have H := Hp.rowOut H 71 hm_ hr_; obtain ⟨Ar71, cr71, rfl⟩ := (H.row 71 rfl).form
 refine la F rfl (x_move (F.t 71 rfl)) fun a F => ?_
 refine la F rfl (x_extract (F.t 69 rfl) rfl) fun a F => ?_
 refine la F rfl (x_extract (F.t 69 rfl) rfl) fun a F => ?_
 refine la F rfl (x_assign (F.t 72 rfl)) fun a F => ?_
 refine la F rfl (x_assign (F.t 73 rfl)) fun a F => ?_
 refine wn (hK18 _ _ ?_)
 refine sr fun _ hK19 => ?_
 refine la F rfl (x_move (F.t 8 rfl)) fun a F => ?_
 refine la F rfl (x_assign (F.t 74 rfl)) fun a F => ?_
 refine la F rfl (x_assign rfl) fun a F => ?_
 refine wn (hK19 _ _ ?_)
 refine wp_ret ?_
 try simp only [Exit.then, Exit.inBlock]
 have hz := enc_good hc12 hq0_1
 exact fin_ret F (res2 F rfl rfl rfl) ⟨_, by rw [hz] <;> rfl, H.mods, Hp.out H 71 rfl⟩
theorem r10right_calls (w0 : World) {t : TimerD} {okt0 : Nat → Prop} {At0 : Option Addr} {ct0 : Nat} (hrt0 : Rd StE w0 okt0 At0 t.steps ct0) (hb : TimerB t) : Calls Tryz.prog 87 #[.agg #[.string (strOfNums t.name), .int .i64 t.ver, .int .u64 t.tick, .int .u64 t.every, .slice At0 t.steps.length ct0]] w0 fun e w' => e = .returned (.bool (rightT t)) ∧ Mods (fun _ => False) w0 w' := by
 refine cow Tryz.func87 rfl Tryz.ntmps87 (Nat.le_of_ble_eq_true rfl) fun a F => ?_
 have H := Hp.nil (fun _ => False) w0
 have H := H.arg 900 hrt0.all (fun _ h => ⟨h, fun h => h⟩)
 have hlet0 := hrt0.le; unfold maxLen at hlet0
 refine sr fun _ hK1 => ?_
 refine lp rfl ?_
 refine w_box 1 F H rfl (F.t 0 rfl) ?_
 clear F H; intro a w b1 F H
 refine la F rfl (x_assign rfl) fun a F => ?_
 refine wn (hK1 _ _ ?_)
 refine sr fun _ hK2 => ?_
 refine la F rfl (x_faddr Tryz.underlying64 rfl ty9 (by decide) (F.t 1 rfl) rfl) fun a F => ?_
 refine la F rfl (x_load1 ty9 (F.t 6 rfl) (blk_cell (H.at 1 rfl) 0 rfl)) fun a F => ?_
 refine lp rfl ?_
 refine w_call F (x_enter Tryz.func85 (by kernel_rfl) rfl (by simp only [bM, F.t 7 rfl] <;> rfl)) (rname_calls _ t.name) rfl rfl ?_
 rintro _ w ⟨rfl, hm_⟩; refine ⟨_, rfl, ?_⟩; clear F; intro a F; have H := H.same hm_
 refine la F rfl (x_assign (F.t 8 rfl)) fun a F => ?_
 refine wn (hK2 _ _ ?_)
 refine sr fun _ hK3 => ?_
 refine la F rfl (x_faddr Tryz.underlying64 rfl ty62 (by decide) (F.t 1 rfl) rfl) fun a F => ?_
 refine la F rfl (x_load1 ty62 (F.t 10 rfl) (blk_cell (H.at 1 rfl) 4 rfl)) fun a F => ?_
 refine lp rfl ?_
 refine w_call F (x_enter Tryz.func70 (by kernel_rfl) rfl (by simp only [bM, F.t 11 rfl] <;> rfl)) (raenc_calls (xs := t.steps) _ ((H.rd 900 rfl)) hb.steps) rfl rfl ?_
 rintro _ w ⟨vr13, rfl, hm_, hr_⟩; refine ⟨_, rfl, ?_⟩; clear F; intro a F; have H := Hp.rowOut H 13 hm_ hr_; obtain ⟨Ar13, cr13, rfl⟩ := (H.row 13 rfl).form
 refine la F rfl (x_move (F.t 12 rfl)) fun a F => ?_
 refine la F rfl (x_extract (F.t 9 rfl) rfl) fun a F => ?_
 refine la F rfl (x_extract (F.t 9 rfl) rfl) fun a F => ?_
 refine la F rfl (x_assign (F.t 13 rfl)) fun a F => ?_
 refine la F rfl (x_assign (F.t 14 rfl)) fun a F => ?_
 refine wn (hK3 _ _ ?_)
 refine sr fun _ hK4 => ?_
 refine la F rfl (x_move (F.t 3 rfl)) fun a F => ?_
 refine la F rfl (x_move (F.t 15 rfl)) fun a F => ?_
 refine split_bool F 16 rfl (fun hb16 => ?_) (fun hb16 => ?_)
 ·have hc16 := hb16; try simp only [bL] at hc16
  refine lgs F hb16 rfl (x_faddr Tryz.underlying64 rfl ty3 (by decide) (F.t 1 rfl) rfl) fun a F => ?_
  refine lgs F hb16 rfl (x_load1 ty3 (F.t 17 rfl) (blk_cell (H.at 1 rfl) 1 rfl)) fun a F => ?_
  refine lgs F hb16 rfl (x_geq (F.t 18 rfl) rfl) fun a F => ?_
  refine la F rfl (x_pickT (F.t 16 rfl) hb16 (F.t 19 rfl)) fun a F => ?_
  refine la F rfl (x_move (F.t 20 rfl)) fun a F => ?_
  refine split_bool F 21 rfl (fun hb21 => ?_) (fun hb21 => ?_)
  ·have hc21 := hb21; try simp only [bL] at hc21
   refine lgs F hb21 rfl (x_faddr Tryz.underlying64 rfl ty3 (by decide) (F.t 1 rfl) rfl) fun a F => ?_
   refine lgs F hb21 rfl (x_load1 ty3 (F.t 22 rfl) (blk_cell (H.at 1 rfl) 1 rfl)) fun a F => ?_
   refine lgs F hb21 rfl (x_leq (F.t 23 rfl) rfl) fun a F => ?_
   refine la F rfl (x_pickT (F.t 21 rfl) hb21 (F.t 24 rfl)) fun a F => ?_
   refine la F rfl (x_move (F.t 25 rfl)) fun a F => ?_
   refine split_bool F 26 rfl (fun hb26 => ?_) (fun hb26 => ?_)
   ·have hc26 := hb26; try simp only [bL] at hc26
    refine lgs F hb26 rfl (x_faddr Tryz.underlying64 rfl ty59 (by decide) (F.t 1 rfl) rfl) fun a F => ?_
    refine lgs F hb26 rfl (x_load1 ty59 (F.t 27 rfl) (blk_cell (H.at 1 rfl) 2 rfl)) fun a F => ?_
    refine lgs F hb26 rfl (x_leq (F.t 28 rfl) rfl) fun a F => ?_
    refine la F rfl (x_pickT (F.t 26 rfl) hb26 (F.t 29 rfl)) fun a F => ?_
    refine la F rfl (x_move (F.t 30 rfl)) fun a F => ?_
    refine split_bool F 31 rfl (fun hb31 => ?_) (fun hb31 => ?_)
    ·have hc31 := hb31; try simp only [bL] at hc31
     refine lgs F hb31 rfl (x_faddr Tryz.underlying64 rfl ty59 (by decide) (F.t 1 rfl) rfl) fun a F => ?_
     refine lgs F hb31 rfl (x_load1 ty59 (F.t 32 rfl) (blk_cell (H.at 1 rfl) 3 rfl)) fun a F => ?_
     refine lgs F hb31 rfl (x_leq (F.t 33 rfl) rfl) fun a F => ?_
     refine la F rfl (x_pickT (F.t 31 rfl) hb31 (F.t 34 rfl)) fun a F => ?_
     refine la F rfl (x_move (F.t 35 rfl)) fun a F => ?_
     refine split_bool F 36 rfl (fun hb36 => ?_) (fun hb36 => ?_)
     ·have hc36 := hb36; try simp only [bL] at hc36
      refine lgs F hb36 rfl (x_move (F.t 5 rfl)) fun a F => ?_
      refine lgs F hb36 rfl (x_eql (F.t 37 rfl) rfl) fun a F => ?_
      refine la F rfl (x_pickT (F.t 36 rfl) hb36 (F.t 38 rfl)) fun a F => ?_
      refine la F rfl (x_assign (F.t 39 rfl)) fun a F => ?_
      refine wn (hK4 _ _ ?_)
      refine wp_ret ?_
      try simp only [Exit.then, Exit.inBlock]
      have hv : (decide ((encE t.steps) = 0)) = rightT t := by rw [rightT_ref]; first | (simp [hc16, hc21, hc26, hc31, hc36]; done) | (simp [hc16, hc21, hc26, hc31, hc36]; omega)
      exact fin_ret F (res1 (v := .bool (decide ((encE t.steps) = 0))) F rfl rfl) ⟨by rw [hv], H.mods⟩
     have hc36 := hb36; try simp only [bL] at hc36
     refine los F hb36 rfl fun a F => ?_
     refine los F hb36 rfl fun a F => ?_
     refine la F rfl (x_pickF (F.t 36 rfl) hb36 rfl) fun a F => ?_
     refine la F rfl (x_assign (F.t 39 rfl)) fun a F => ?_
     refine wn (hK4 _ _ ?_)
     refine wp_ret ?_
     try simp only [Exit.then, Exit.inBlock]
     have hv : false = rightT t := by rw [rightT_ref]; first | (simp [hc16, hc21, hc26, hc31, hc36]; done) | (simp [hc16, hc21, hc26, hc31, hc36]; omega)
     exact fin_ret F (res1 (v := .bool false) F rfl rfl) ⟨by rw [hv], H.mods⟩
    have hc31 := hb31; try simp only [bL] at hc31
    refine los F hb31 rfl fun a F => ?_
    refine los F hb31 rfl fun a F => ?_
    refine los F hb31 rfl fun a F => ?_
    refine la F rfl (x_pickF (F.t 31 rfl) hb31 rfl) fun a F => ?_
    refine la F rfl (x_move (F.t 35 rfl)) fun a F => ?_
    refine lo F rfl fun a F => ?_
    refine lo F rfl fun a F => ?_
    refine la F rfl (x_pickF (F.t 36 rfl) rfl rfl) fun a F => ?_
    refine la F rfl (x_assign (F.t 39 rfl)) fun a F => ?_
    refine wn (hK4 _ _ ?_)
    refine wp_ret ?_
    try simp only [Exit.then, Exit.inBlock]
    have hv : false = rightT t := by rw [rightT_ref]; first | (simp [hc16, hc21, hc26, hc31]; done) | (simp [hc16, hc21, hc26, hc31]; omega)
    exact fin_ret F (res1 (v := .bool false) F rfl rfl) ⟨by rw [hv], H.mods⟩
   have hc26 := hb26; try simp only [bL] at hc26
   refine los F hb26 rfl fun a F => ?_
   refine los F hb26 rfl fun a F => ?_
   refine los F hb26 rfl fun a F => ?_
   refine la F rfl (x_pickF (F.t 26 rfl) hb26 rfl) fun a F => ?_
   refine la F rfl (x_move (F.t 30 rfl)) fun a F => ?_
   refine lo F rfl fun a F => ?_
   refine lo F rfl fun a F => ?_
   refine lo F rfl fun a F => ?_
   refine la F rfl (x_pickF (F.t 31 rfl) rfl rfl) fun a F => ?_
   refine la F rfl (x_move (F.t 35 rfl)) fun a F => ?_
   refine lo F rfl fun a F => ?_
   refine lo F rfl fun a F => ?_
   refine la F rfl (x_pickF (F.t 36 rfl) rfl rfl) fun a F => ?_
   refine la F rfl (x_assign (F.t 39 rfl)) fun a F => ?_
   refine wn (hK4 _ _ ?_)
   refine wp_ret ?_
   try simp only [Exit.then, Exit.inBlock]
   have hv : false = rightT t := by rw [rightT_ref]; first | (simp [hc16, hc21, hc26]; done) | (simp [hc16, hc21, hc26]; omega)
   exact fin_ret F (res1 (v := .bool false) F rfl rfl) ⟨by rw [hv], H.mods⟩
  have hc21 := hb21; try simp only [bL] at hc21
  refine los F hb21 rfl fun a F => ?_
  refine los F hb21 rfl fun a F => ?_
  refine los F hb21 rfl fun a F => ?_
  refine la F rfl (x_pickF (F.t 21 rfl) hb21 rfl) fun a F => ?_
  refine la F rfl (x_move (F.t 25 rfl)) fun a F => ?_
  refine lo F rfl fun a F => ?_
  refine lo F rfl fun a F => ?_
  refine lo F rfl fun a F => ?_
  refine la F rfl (x_pickF (F.t 26 rfl) rfl rfl) fun a F => ?_
  refine la F rfl (x_move (F.t 30 rfl)) fun a F => ?_
  refine lo F rfl fun a F => ?_
  refine lo F rfl fun a F => ?_
  refine lo F rfl fun a F => ?_
  refine la F rfl (x_pickF (F.t 31 rfl) rfl rfl) fun a F => ?_
  refine la F rfl (x_move (F.t 35 rfl)) fun a F => ?_
  refine lo F rfl fun a F => ?_
  refine lo F rfl fun a F => ?_
  refine la F rfl (x_pickF (F.t 36 rfl) rfl rfl) fun a F => ?_
  refine la F rfl (x_assign (F.t 39 rfl)) fun a F => ?_
  refine wn (hK4 _ _ ?_)
  refine wp_ret ?_
  try simp only [Exit.then, Exit.inBlock]
  have hv : false = rightT t := by rw [rightT_ref]; first | (simp [hc16, hc21]; done) | (simp [hc16, hc21]; omega)
  exact fin_ret F (res1 (v := .bool false) F rfl rfl) ⟨by rw [hv], H.mods⟩
 have hc16 := hb16; try simp only [bL] at hc16
 refine los F hb16 rfl fun a F => ?_
 refine los F hb16 rfl fun a F => ?_
 refine los F hb16 rfl fun a F => ?_
 refine la F rfl (x_pickF (F.t 16 rfl) hb16 rfl) fun a F => ?_
 refine la F rfl (x_move (F.t 20 rfl)) fun a F => ?_
 refine lo F rfl fun a F => ?_
 refine lo F rfl fun a F => ?_
 refine lo F rfl fun a F => ?_
 refine la F rfl (x_pickF (F.t 21 rfl) rfl rfl) fun a F => ?_
 refine la F rfl (x_move (F.t 25 rfl)) fun a F => ?_
 refine lo F rfl fun a F => ?_
 refine lo F rfl fun a F => ?_
 refine lo F rfl fun a F => ?_
 refine la F rfl (x_pickF (F.t 26 rfl) rfl rfl) fun a F => ?_
 refine la F rfl (x_move (F.t 30 rfl)) fun a F => ?_
 refine lo F rfl fun a F => ?_
 refine lo F rfl fun a F => ?_
 refine lo F rfl fun a F => ?_
 refine la F rfl (x_pickF (F.t 31 rfl) rfl rfl) fun a F => ?_
 refine la F rfl (x_move (F.t 35 rfl)) fun a F => ?_
 refine lo F rfl fun a F => ?_
 refine lo F rfl fun a F => ?_
 refine la F rfl (x_pickF (F.t 36 rfl) rfl rfl) fun a F => ?_
 refine la F rfl (x_assign (F.t 39 rfl)) fun a F => ?_
 refine wn (hK4 _ _ ?_)
 refine wp_ret ?_
 try simp only [Exit.then, Exit.inBlock]
 have hv : false = rightT t := by rw [rightT_ref]; first | (simp [hc16]; done) | (simp [hc16]; omega)
 exact fin_ret F (res1 (v := .bool false) F rfl rfl) ⟨by rw [hv], H.mods⟩
theorem none_calls (w0 : World) {t : TimerD} {okt0 : Nat → Prop} {At0 : Option Addr} {ct0 : Nat} (hrt0 : Rd StE w0 okt0 At0 t.steps ct0) (hb : TimerB t) : Calls Tryz.prog 86 #[.agg #[.string (strOfNums t.name), .int .i64 t.ver, .int .u64 t.tick, .int .u64 t.every, .slice At0 t.steps.length ct0]] w0 fun e w' => e = .returned (.bool (decide (t = zT))) ∧ Mods (fun _ => False) w0 w' := by
 refine cow Tryz.func86 rfl Tryz.ntmps86 (Nat.le_of_ble_eq_true rfl) fun a F => ?_
 have H := Hp.nil (fun _ => False) w0
 have H := H.arg 900 hrt0.all (fun _ h => ⟨h, fun h => h⟩)
 have hlet0 := hrt0.le; unfold maxLen at hlet0
 refine sr fun _ hK1 => ?_
 refine lp rfl ?_
 refine w_box 1 F H rfl (F.t 0 rfl) ?_
 clear F H; intro a w b1 F H
 refine la F rfl (x_assign rfl) fun a F => ?_
 refine wn (hK1 _ _ ?_)
 refine sr fun _ hK2 => ?_
 refine la F rfl (x_loadn ty64 (F.t 1 rfl) rfl (blk_whole (H.at 1 rfl))) fun a F => ?_
 refine la F rfl (x_buildS (cells := #[.string (strOfNums []), .int .i64 0, .int .u64 0, .int .u64 0, .slice none 0 0]) (places := #[(0, 1), (1, 1), (2, 1), (3, 1), (4, 1)]) Tryz.underlying64 ty64 (by kernel_rfl) Array.map_empty rfl) fun a F => ?_
 refine lp rfl ?_
 refine w_call F (x_enter Tryz.func89 (by kernel_rfl) rfl (by simp only [bM, F.t 3 rfl, F.t 4 rfl] <;> rfl)) (r10same_calls (p := t) (q := zT) _ ((H.rd 900 rfl)) (Rd.nil StE _ (fun _ => False)) hb zT_B) rfl rfl ?_
 rintro _ w ⟨rfl, hm_⟩; refine ⟨_, rfl, ?_⟩; clear F; intro a F; have H := H.same hm_
 refine la F rfl (x_assign (F.t 5 rfl)) fun a F => ?_
 refine wn (hK2 _ _ ?_)
 refine wp_ret ?_
 try simp only [Exit.then, Exit.inBlock]
 exact fin_ret F (res1 F rfl rfl) ⟨rfl, H.mods⟩
theorem r12right_calls (w0 : World) {c : ChangeD} {okc0 : Nat → Prop} {Ac0 : Option Addr} {cc0 : Nat} (hrc0 : Rd StE w0 okc0 Ac0 c.timer.steps cc0) (hb : ChangeB c) : Calls Tryz.prog 51 #[.agg #[.int .i64 c.kind, .string (strOfNums c.key), .string (strOfNums c.value), .string (strOfNums c.timer.name), .int .i64 c.timer.ver, .int .u64 c.timer.tick, .int .u64 c.timer.every, .slice Ac0 c.timer.steps.length cc0]] w0 fun e w' => e = .returned (.bool (rightC c)) ∧ Mods (fun _ => False) w0 w' := by
 refine cow Tryz.func51 rfl Tryz.ntmps51 (Nat.le_of_ble_eq_true rfl) fun a F => ?_
 have H := Hp.nil (fun _ => False) w0
 have H := H.arg 900 hrc0.all (fun _ h => ⟨h, fun h => h⟩)
 have hlec0 := hrc0.le; unfold maxLen at hlec0
 refine sr fun _ hK1 => ?_
 refine lp rfl ?_
 refine w_box 1 F H rfl (F.t 0 rfl) ?_
 clear F H; intro a w b1 F H
 refine la F rfl (x_assign rfl) fun a F => ?_
 refine wn (hK1 _ _ ?_)
 refine sr fun _ hK2 => ?_
 refine la F rfl (x_faddr Tryz.underlying66 rfl ty9 (by decide) (F.t 1 rfl) rfl) fun a F => ?_
 refine la F rfl (x_load1 ty9 (F.t 5 rfl) (blk_cell (H.at 1 rfl) 1 rfl)) fun a F => ?_
 refine lp rfl ?_
 refine w_call F (x_enter Tryz.func85 (by kernel_rfl) rfl (by simp only [bM, F.t 6 rfl] <;> rfl)) (rname_calls _ c.key) rfl rfl ?_
 rintro _ w ⟨rfl, hm_⟩; refine ⟨_, rfl, ?_⟩; clear F; intro a F; have H := H.same hm_
 refine la F rfl (x_assign (F.t 7 rfl)) fun a F => ?_
 refine wn (hK2 _ _ ?_)
 refine sr fun _ hK3 => ?_
 refine la F rfl (x_faddr Tryz.underlying66 rfl ty64 (by decide) (F.t 1 rfl) rfl) fun a F => ?_
 refine la F rfl (x_loadn (cs := #[.string (strOfNums c.timer.name), .int .i64 c.timer.ver, .int .u64 c.timer.tick, .int .u64 c.timer.every, .slice Ac0 c.timer.steps.length cc0]) ty64 (F.t 8 rfl) rfl (blk_sub (H.at 1 rfl) 3 5 rfl)) fun a F => ?_
 refine lp rfl ?_
 refine w_call F (x_enter Tryz.func86 (by kernel_rfl) rfl (by simp only [bM, F.t 9 rfl] <;> rfl)) (none_calls (t := c.timer) _ ((H.rd 900 rfl)) hb.timer) rfl rfl ?_
 rintro _ w ⟨rfl, hm_⟩; refine ⟨_, rfl, ?_⟩; clear F; intro a F; have H := H.same hm_
 refine la F rfl (x_assign (F.t 10 rfl)) fun a F => ?_
 refine wn (hK3 _ _ ?_)
 refine wp_seq_k fun _ hK4 => ?_
 refine sr fun _ hK5 => ?_
 refine la F rfl (x_faddr Tryz.underlying66 rfl ty61 (by decide) (F.t 1 rfl) rfl) fun a F => ?_
 refine la F rfl (x_load1 ty61 (F.t 11 rfl) (blk_cell (H.at 1 rfl) 0 rfl)) fun a F => ?_
 refine wn (hK5 _ _ ?_)
 refine wp_block ?_
 refine sr fun _ hK6 => ?_
 refine la F rfl (x_eql (F.t 12 rfl) rfl) fun a F => ?_
 refine la F rfl (x_assign (F.t 14 rfl)) fun a F => ?_
 refine wn (hK6 _ _ ?_)
 refine wp_cond_split (F.t 13 rfl) (fun hc13 => ?_) (fun hc13 => ?_)
 ·have hk13_1 := hc13; try simp only [bL] at hc13
  refine sr fun _ hK7 => ?_
  refine la F rfl (x_move (F.t 3 rfl)) fun a F => ?_
  refine la F rfl (x_move (F.t 15 rfl)) fun a F => ?_
  refine split_bool F 16 rfl (fun hb16 => ?_) (fun hb16 => ?_)
  ·have hc16 := hb16; try simp only [bL] at hc16
   refine lgs F hb16 rfl (x_faddr Tryz.underlying66 rfl ty9 (by decide) (F.t 1 rfl) rfl) fun a F => ?_
   refine lgs F hb16 rfl (x_load1 ty9 (F.t 17 rfl) (blk_cell (H.at 1 rfl) 2 rfl)) fun a F => ?_
   refine lgs F hb16 rfl (x_len_sn (xs := c.value) Tryz.underlying9 (F.t 18 rfl)) fun a F => ?_
   refine lgs F hb16 rfl (x_leq (F.t 19 rfl) rfl) fun a F => ?_
   refine la F rfl (x_pickT (F.t 16 rfl) hb16 (F.t 20 rfl)) fun a F => ?_
   refine la F rfl (x_move (F.t 21 rfl)) fun a F => ?_
   refine split_bool F 22 rfl (fun hb22 => ?_) (fun hb22 => ?_)
   ·have hc22 := hb22; try simp only [bL] at hc22
    refine lgs F hb22 rfl (x_move (F.t 4 rfl)) fun a F => ?_
    refine la F rfl (x_pickT (F.t 22 rfl) hb22 (F.t 23 rfl)) fun a F => ?_
    refine la F rfl (x_assign (F.t 24 rfl)) fun a F => ?_
    refine wn (hK7 _ _ ?_)
    refine wp_ret ?_
    try simp only [Exit.then, Exit.inBlock]
    have hv : (decide (c.timer = zT)) = rightC c := by rw [rightC_ref]; unfold riC; first | (simp [hc13, hc16, hc22]; done) | (simp [hc13, hc16, hc22]; omega)
    exact fin_ret F (res1 (v := .bool (decide (c.timer = zT))) F rfl rfl) ⟨by rw [hv], H.mods⟩
   have hc22 := hb22; try simp only [bL] at hc22
   refine los F hb22 rfl fun a F => ?_
   refine la F rfl (x_pickF (F.t 22 rfl) hb22 rfl) fun a F => ?_
   refine la F rfl (x_assign (F.t 24 rfl)) fun a F => ?_
   refine wn (hK7 _ _ ?_)
   refine wp_ret ?_
   try simp only [Exit.then, Exit.inBlock]
   have hv : false = rightC c := by rw [rightC_ref]; unfold riC; first | (simp [hc13, hc16, hc22]; done) | (simp [hc13, hc16, hc22]; omega)
   exact fin_ret F (res1 (v := .bool false) F rfl rfl) ⟨by rw [hv], H.mods⟩
  have hc16 := hb16; try simp only [bL] at hc16
  refine los F hb16 rfl fun a F => ?_
  refine los F hb16 rfl fun a F => ?_
  refine los F hb16 rfl fun a F => ?_
  refine los F hb16 rfl fun a F => ?_
  refine la F rfl (x_pickF (F.t 16 rfl) hb16 rfl) fun a F => ?_
  refine la F rfl (x_move (F.t 21 rfl)) fun a F => ?_
  refine lo F rfl fun a F => ?_
  refine la F rfl (x_pickF (F.t 22 rfl) rfl rfl) fun a F => ?_
  refine la F rfl (x_assign (F.t 24 rfl)) fun a F => ?_
  refine wn (hK7 _ _ ?_)
  refine wp_ret ?_
  try simp only [Exit.then, Exit.inBlock]
  have hv : false = rightC c := by rw [rightC_ref]; unfold riC; first | (simp [hc13, hc16]; done) | (simp [hc13, hc16]; omega)
  exact fin_ret F (res1 (v := .bool false) F rfl rfl) ⟨by rw [hv], H.mods⟩
 have hk13_2 := hc13; try simp only [bL] at hc13
 refine wp_seq_k fun _ hK8 => ?_
 refine sr fun _ hK9 => ?_
 refine la F rfl (x_eql (F.t 12 rfl) rfl) fun a F => ?_
 refine la F rfl (x_assign (F.t 26 rfl)) fun a F => ?_
 refine wn (hK9 _ _ ?_)
 refine wp_cond_split (F.t 25 rfl) (fun hc25 => ?_) (fun hc25 => ?_)
 ·have hk25_3 := hc25; try simp only [bL] at hc25
  refine wp_skip ?_
  refine hK8 _ _ ?_
  refine wp_cond_true ((F.t 25 rfl).trans (by rw [hk25_3])) ?_
  refine sr fun _ hK10 => ?_
  refine la F rfl (x_move (F.t 3 rfl)) fun a F => ?_
  refine la F rfl (x_move (F.t 28 rfl)) fun a F => ?_
  refine split_bool F 29 rfl (fun hb29 => ?_) (fun hb29 => ?_)
  ·have hc29 := hb29; try simp only [bL] at hc29
   refine lgs F hb29 rfl (x_faddr Tryz.underlying66 rfl ty9 (by decide) (F.t 1 rfl) rfl) fun a F => ?_
   refine lgs F hb29 rfl (x_load1 ty9 (F.t 30 rfl) (blk_cell (H.at 1 rfl) 2 rfl)) fun a F => ?_
   refine lgs F hb29 rfl (x_eqn0 (xs := c.value) (F.t 31 rfl) (show _ = Value.string (strOfNums ([] : List Int)) by kernel_rfl)) fun a F => ?_
   refine la F rfl (x_pickT (F.t 29 rfl) hb29 (F.t 32 rfl)) fun a F => ?_
   refine la F rfl (x_move (F.t 33 rfl)) fun a F => ?_
   refine split_bool F 34 rfl (fun hb34 => ?_) (fun hb34 => ?_)
   ·have hc34 := hb34; try simp only [bL] at hc34
    refine lgs F hb34 rfl (x_move (F.t 4 rfl)) fun a F => ?_
    refine la F rfl (x_pickT (F.t 34 rfl) hb34 (F.t 35 rfl)) fun a F => ?_
    refine la F rfl (x_assign (F.t 36 rfl)) fun a F => ?_
    refine wn (hK10 _ _ ?_)
    refine wp_ret ?_
    try simp only [Exit.then, Exit.inBlock]
    have hv : (decide (c.timer = zT)) = rightC c := by rw [rightC_ref]; unfold riC; first | (simp [hc13, hc25, hc29, hc34]; done) | (simp [hc13, hc25, hc29, hc34]; omega)
    exact fin_ret F (res1 (v := .bool (decide (c.timer = zT))) F rfl rfl) ⟨by rw [hv], H.mods⟩
   have hc34 := hb34; try simp only [bL] at hc34
   refine los F hb34 rfl fun a F => ?_
   refine la F rfl (x_pickF (F.t 34 rfl) hb34 rfl) fun a F => ?_
   refine la F rfl (x_assign (F.t 36 rfl)) fun a F => ?_
   refine wn (hK10 _ _ ?_)
   refine wp_ret ?_
   try simp only [Exit.then, Exit.inBlock]
   have hv : false = rightC c := by rw [rightC_ref]; unfold riC; first | (simp [hc13, hc25, hc29, hc34]; done) | (simp [hc13, hc25, hc29, hc34]; omega)
   exact fin_ret F (res1 (v := .bool false) F rfl rfl) ⟨by rw [hv], H.mods⟩
  have hc29 := hb29; try simp only [bL] at hc29
  refine los F hb29 rfl fun a F => ?_
  refine los F hb29 rfl fun a F => ?_
  refine los F hb29 rfl fun a F => ?_
  refine la F rfl (x_pickF (F.t 29 rfl) hb29 rfl) fun a F => ?_
  refine la F rfl (x_move (F.t 33 rfl)) fun a F => ?_
  refine lo F rfl fun a F => ?_
  refine la F rfl (x_pickF (F.t 34 rfl) rfl rfl) fun a F => ?_
  refine la F rfl (x_assign (F.t 36 rfl)) fun a F => ?_
  refine wn (hK10 _ _ ?_)
  refine wp_ret ?_
  try simp only [Exit.then, Exit.inBlock]
  have hv : false = rightC c := by rw [rightC_ref]; unfold riC; first | (simp [hc13, hc25, hc29]; done) | (simp [hc13, hc25, hc29]; omega)
  exact fin_ret F (res1 (v := .bool false) F rfl rfl) ⟨by rw [hv], H.mods⟩
 have hk25_4 := hc25; try simp only [bL] at hc25
 refine wp_region_lit ?_
 refine la F rfl (x_eql (F.t 12 rfl) rfl) fun a F => ?_
 refine la F rfl (x_assign (F.t 27 rfl)) fun a F => ?_
 refine wn (hK8 _ _ ?_)
 refine wp_cond_split (F.t 25 rfl) (fun hc25 => ?_) (fun hc25 => ?_)
 ·have hk25_5 := hc25; try simp only [bL] at hc25
  refine sr fun _ hK11 => ?_
  refine la F rfl (x_move (F.t 3 rfl)) fun a F => ?_
  refine la F rfl (x_move (F.t 28 rfl)) fun a F => ?_
  refine split_bool F 29 rfl (fun hb29 => ?_) (fun hb29 => ?_)
  ·have hc29 := hb29; try simp only [bL] at hc29
   refine lgs F hb29 rfl (x_faddr Tryz.underlying66 rfl ty9 (by decide) (F.t 1 rfl) rfl) fun a F => ?_
   refine lgs F hb29 rfl (x_load1 ty9 (F.t 30 rfl) (blk_cell (H.at 1 rfl) 2 rfl)) fun a F => ?_
   refine lgs F hb29 rfl (x_eqn0 (xs := c.value) (F.t 31 rfl) (show _ = Value.string (strOfNums ([] : List Int)) by kernel_rfl)) fun a F => ?_
   refine la F rfl (x_pickT (F.t 29 rfl) hb29 (F.t 32 rfl)) fun a F => ?_
   refine la F rfl (x_move (F.t 33 rfl)) fun a F => ?_
   refine split_bool F 34 rfl (fun hb34 => ?_) (fun hb34 => ?_)
   ·have hc34 := hb34; try simp only [bL] at hc34
    refine lgs F hb34 rfl (x_move (F.t 4 rfl)) fun a F => ?_
    refine la F rfl (x_pickT (F.t 34 rfl) hb34 (F.t 35 rfl)) fun a F => ?_
    refine la F rfl (x_assign (F.t 36 rfl)) fun a F => ?_
    refine wn (hK11 _ _ ?_)
    refine wp_ret ?_
    try simp only [Exit.then, Exit.inBlock]
    have hv : (decide (c.timer = zT)) = rightC c := by rw [rightC_ref]; unfold riC; first | (simp [hc13, hc25, hc25, hc29, hc34]; done) | (simp [hc13, hc25, hc25, hc29, hc34]; omega)
    exact fin_ret F (res1 (v := .bool (decide (c.timer = zT))) F rfl rfl) ⟨by rw [hv], H.mods⟩
   have hc34 := hb34; try simp only [bL] at hc34
   refine los F hb34 rfl fun a F => ?_
   refine la F rfl (x_pickF (F.t 34 rfl) hb34 rfl) fun a F => ?_
   refine la F rfl (x_assign (F.t 36 rfl)) fun a F => ?_
   refine wn (hK11 _ _ ?_)
   refine wp_ret ?_
   try simp only [Exit.then, Exit.inBlock]
   have hv : false = rightC c := by rw [rightC_ref]; unfold riC; first | (simp [hc13, hc25, hc25, hc29, hc34]; done) | (simp [hc13, hc25, hc25, hc29, hc34]; omega)
   exact fin_ret F (res1 (v := .bool false) F rfl rfl) ⟨by rw [hv], H.mods⟩
  have hc29 := hb29; try simp only [bL] at hc29
  refine los F hb29 rfl fun a F => ?_
  refine los F hb29 rfl fun a F => ?_
  refine los F hb29 rfl fun a F => ?_
  refine la F rfl (x_pickF (F.t 29 rfl) hb29 rfl) fun a F => ?_
  refine la F rfl (x_move (F.t 33 rfl)) fun a F => ?_
  refine lo F rfl fun a F => ?_
  refine la F rfl (x_pickF (F.t 34 rfl) rfl rfl) fun a F => ?_
  refine la F rfl (x_assign (F.t 36 rfl)) fun a F => ?_
  refine wn (hK11 _ _ ?_)
  refine wp_ret ?_
  try simp only [Exit.then, Exit.inBlock]
  have hv : false = rightC c := by rw [rightC_ref]; unfold riC; first | (simp [hc13, hc25, hc25, hc29]; done) | (simp [hc13, hc25, hc25, hc29]; omega)
  exact fin_ret F (res1 (v := .bool false) F rfl rfl) ⟨by rw [hv], H.mods⟩
 have hk25_6 := hc25; try simp only [bL] at hc25
 refine sr fun _ hK12 => ?_
 refine la F rfl (x_eql (F.t 12 rfl) rfl) fun a F => ?_
 refine la F rfl (x_assign (F.t 38 rfl)) fun a F => ?_
 refine wn (hK12 _ _ ?_)
 refine wp_cond_split (F.t 37 rfl) (fun hc37 => ?_) (fun hc37 => ?_)
 ·have hk37_7 := hc37; try simp only [bL] at hc37
  refine sr fun _ hK13 => ?_
  refine la F rfl (x_faddr Tryz.underlying66 rfl ty9 (by decide) (F.t 1 rfl) rfl) fun a F => ?_
  refine la F rfl (x_load1 ty9 (F.t 39 rfl) (blk_cell (H.at 1 rfl) 1 rfl)) fun a F => ?_
  refine la F rfl (x_eqn0 (xs := c.key) (F.t 40 rfl) (show _ = Value.string (strOfNums ([] : List Int)) by kernel_rfl)) fun a F => ?_
  refine la F rfl (x_move (F.t 41 rfl)) fun a F => ?_
  refine split_bool F 42 rfl (fun hb42 => ?_) (fun hb42 => ?_)
  ·have hc42 := hb42; try simp only [bL] at hc42
   refine lgs F hb42 rfl (x_faddr Tryz.underlying66 rfl ty9 (by decide) (F.t 1 rfl) rfl) fun a F => ?_
   refine lgs F hb42 rfl (x_load1 ty9 (F.t 43 rfl) (blk_cell (H.at 1 rfl) 2 rfl)) fun a F => ?_
   refine lgs F hb42 rfl (x_eqn0 (xs := c.value) (F.t 44 rfl) (show _ = Value.string (strOfNums ([] : List Int)) by kernel_rfl)) fun a F => ?_
   refine la F rfl (x_pickT (F.t 42 rfl) hb42 (F.t 45 rfl)) fun a F => ?_
   refine la F rfl (x_move (F.t 46 rfl)) fun a F => ?_
   refine split_bool F 47 rfl (fun hb47 => ?_) (fun hb47 => ?_)
   ·have hc47 := hb47; try simp only [bL] at hc47
    refine lgs F hb47 rfl (x_faddr Tryz.underlying66 rfl ty64 (by decide) (F.t 1 rfl) rfl) fun a F => ?_
    refine lgs F hb47 rfl (x_loadn (cs := #[.string (strOfNums c.timer.name), .int .i64 c.timer.ver, .int .u64 c.timer.tick, .int .u64 c.timer.every, .slice Ac0 c.timer.steps.length cc0]) ty64 (F.t 48 rfl) rfl (blk_sub (H.at 1 rfl) 3 5 rfl)) fun a F => ?_
    refine lpo ((wo F rfl).trans (by rw [hb47]; rfl)) ?_
    refine w_call F (x_enter Tryz.func87 (by kernel_rfl) rfl (by simp only [bM, F.t 49 rfl] <;> rfl)) (r10right_calls (t := c.timer) _ ((H.rd 900 rfl)) hb.timer) rfl rfl ?_
    rintro _ w ⟨rfl, hm_⟩; refine ⟨_, rfl, ?_⟩; clear F; intro a F; have H := H.same hm_
    refine la F rfl (x_pickT (F.t 47 rfl) hb47 (F.t 50 rfl)) fun a F => ?_
    refine la F rfl (x_assign (F.t 51 rfl)) fun a F => ?_
    refine wn (hK13 _ _ ?_)
    refine wp_ret ?_
    try simp only [Exit.then, Exit.inBlock]
    have hv : (rightT c.timer) = rightC c := by rw [rightC_ref]; unfold riC; first | (simp [hc13, hc25, hc25, hc37, hc42, hc47]; done) | (simp [hc13, hc25, hc25, hc37, hc42, hc47]; omega)
    exact fin_ret F (res1 (v := .bool (rightT c.timer)) F rfl rfl) ⟨by rw [hv], H.mods⟩
   have hc47 := hb47; try simp only [bL] at hc47
   refine los F hb47 rfl fun a F => ?_
   refine los F hb47 rfl fun a F => ?_
   refine los F hb47 rfl fun a F => ?_
   refine la F rfl (x_pickF (F.t 47 rfl) hb47 rfl) fun a F => ?_
   refine la F rfl (x_assign (F.t 51 rfl)) fun a F => ?_
   refine wn (hK13 _ _ ?_)
   refine wp_ret ?_
   try simp only [Exit.then, Exit.inBlock]
   have hv : false = rightC c := by rw [rightC_ref]; unfold riC; first | (simp [hc13, hc25, hc25, hc37, hc42, hc47]; done) | (simp [hc13, hc25, hc25, hc37, hc42, hc47]; omega)
   exact fin_ret F (res1 (v := .bool false) F rfl rfl) ⟨by rw [hv], H.mods⟩
  have hc42 := hb42; try simp only [bL] at hc42
  refine los F hb42 rfl fun a F => ?_
  refine los F hb42 rfl fun a F => ?_
  refine los F hb42 rfl fun a F => ?_
  refine la F rfl (x_pickF (F.t 42 rfl) hb42 rfl) fun a F => ?_
  refine la F rfl (x_move (F.t 46 rfl)) fun a F => ?_
  refine lo F rfl fun a F => ?_
  refine lo F rfl fun a F => ?_
  refine lo F rfl fun a F => ?_
  refine la F rfl (x_pickF (F.t 47 rfl) rfl rfl) fun a F => ?_
  refine la F rfl (x_assign (F.t 51 rfl)) fun a F => ?_
  refine wn (hK13 _ _ ?_)
  refine wp_ret ?_
  try simp only [Exit.then, Exit.inBlock]
  have hv : false = rightC c := by rw [rightC_ref]; unfold riC; first | (simp [hc13, hc25, hc25, hc37, hc42]; done) | (simp [hc13, hc25, hc25, hc37, hc42]; omega)
  exact fin_ret F (res1 (v := .bool false) F rfl rfl) ⟨by rw [hv], H.mods⟩
 have hk37_8 := hc37; try simp only [bL] at hc37
 refine wp_skip ?_
 refine hK4 _ _ ?_
 refine sr fun _ hK14 => ?_
 refine la F rfl (x_assign rfl) fun a F => ?_
 refine wn (hK14 _ _ ?_)
 refine wp_ret ?_
 try simp only [Exit.then, Exit.inBlock]
 have hv : false = rightC c := by rw [rightC_ref]; unfold riC; first | (simp [hc13, hc25, hc25, hc37]; done) | (simp [hc13, hc25, hc25, hc37]; omega)
 exact fin_ret F (res1 (v := .bool false) F rfl rfl) ⟨by rw [hv], H.mods⟩
theorem r15nodes_calls (w0 : World) {ok : Nat → Prop} {A : Option Addr} {xs : List Int} {c : Nat} (hr : Rd (.int .i64) w0 ok A xs c) : Calls Tryz.prog 50 #[.slice A xs.length c] w0 fun e w' => e = .returned (.bool (nodesFrom (-1) xs && decide ((0 : Int) < (xs.length : Int)))) ∧ Mods (fun _ => False) w0 w' := by
 refine cow Tryz.func50 rfl Tryz.ntmps50 (Nat.le_of_ble_eq_true rfl) fun a F => ?_
 have H := Hp.nil (fun _ => False) w0
 have H := H.arg 901 hr.all (fun _ h => ⟨h, fun h => h⟩)
 have hle901 := hr.le; unfold maxLen at hle901
 refine sr fun _ hK1 => ?_
 refine la F rfl (x_assign rfl) fun a F => ?_
 refine wn (hK1 _ _ ?_)
 refine wp_seq_k fun _ hK2 => ?_
 refine sr fun _ hK3 => ?_
 refine la F rfl (x_assign rfl) fun a F => ?_
 refine wn (hK3 _ _ ?_)
 refine wp_block ?_
 refine wp_loop_ghost (fun n_ a w => ∃ k : Nat, n_ = xs.length - k ∧ (k ≤ xs.length) ∧ (nodesFrom (-1) xs = nodesFrom (prevI xs k) (xs.drop k)) ∧ Fr 41 a [(0, .slice A xs.length c), (3, .int .i64 (k : Int))] ∧ Hp (fun _ => False) w0 w [(901, .rd_ (.int .i64) A xs c (fun k => k < w0.heap.size))]) (xs.length) ?_ ?_
 ·exact ⟨0, rfl, by omega, rfl, ((F.bare.add F 3 rfl).add F 0 rfl), H.sub _ (sub_cons (sub_nil _) 901 rfl)⟩
 rintro _ a w ⟨k, rfl, hq0_0, hq0_1, F, H⟩
 refine wp_seq_k fun _ hK4 => ?_
 refine sr fun _ hK5 => ?_
 refine la F rfl (x_move (F.t 3 rfl)) fun a F => ?_
 refine la F rfl (x_move (F.t 0 rfl)) fun a F => ?_
 refine la F rfl (x_len_slice Tryz.underlying23 (F.t 5 rfl)) fun a F => ?_
 refine la F rfl (x_lss (F.t 4 rfl) (F.t 6 rfl)) fun a F => ?_
 refine wn (hK5 _ _ ?_)
 refine wp_cond_split (F.t 7 rfl) (fun hc7 => ?_) (fun hc7 => ?_)
 ·have hk7_1 := hc7; try simp only [bL] at hc7
  refine wp_skip ?_
  refine hK4 _ _ ?_
  refine wp_seq_k fun _ hK6 => ?_
  refine wp_block ?_
  refine wp_seq_k fun _ hK7 => ?_
  refine r_start [(901, .rd_ (.int .i64) A xs c (fun k => k < w0.heap.size))] (by kernel_rfl) H fun H => ?_
  have hS : SL [(901, .rd_ (.int .i64) A xs c (fun k => k < w0.heap.size))] _ := SL.of H (sub_cons (sub_nil _) 901 rfl)
  refine rT 0 F rfl (by kernel_rfl) pq rfl hS (fun w hS => x_move (F.t 0 rfl)) rfl fun a F => ?_
  refine rT 1 F rfl (by kernel_rfl) pq rfl hS (fun w hS => x_move (F.t 3 rfl)) rfl fun a F => ?_
  refine rT 2 F rfl (by kernel_rfl) pq rfl hS (fun w hS => x_iaddr_A Tryz.underlying23 ty3 ((H.rd 901 rfl)) (F.t 10 rfl) (F.t 11 rfl) (by omega) (by omega) _) rfl fun a F => ?_
  refine rT 3 F rfl (by kernel_rfl) pq rfl hS (fun w hS => x_load1 ty3 (F.t 12 rfl) (((SL.rd hS 901 rfl)).cellA (gi_some (i := (k : Int)) (by omega) (by omega)))) rfl fun a F => ?_
  refine rT 4 F rfl (by kernel_rfl) pq rfl hS (fun w hS => x_lss (F.t 13 rfl) rfl) rfl fun a F => ?_
  refine rT 5 F rfl (by kernel_rfl) pq rfl hS (fun w hS => x_move (F.t 14 rfl)) rfl fun a F => ?_
  refine split_bool F 15 rfl (fun hb15 => ?_) (fun hb15 => ?_)
  ·have hc15 := hb15; try simp only [bL] at hc15
   refine rO 6 F rfl (by kernel_rfl) pq ((wo F rfl).trans (by rw [hb15]; rfl)) hS rfl fun a F => ?_
   refine rO 7 F rfl (by kernel_rfl) pq ((wo F rfl).trans (by rw [hb15]; rfl)) hS rfl fun a F => ?_
   refine rO 8 F rfl (by kernel_rfl) pq ((wo F rfl).trans (by rw [hb15]; rfl)) hS rfl fun a F => ?_
   refine rO 9 F rfl (by kernel_rfl) pq ((wo F rfl).trans (by rw [hb15]; rfl)) hS rfl fun a F => ?_
   refine rO 10 F rfl (by kernel_rfl) pq ((wo F rfl).trans (by rw [hb15]; rfl)) hS rfl fun a F => ?_
   refine rT 11 F rfl (by kernel_rfl) pq rfl hS (fun w hS => x_pickT (F.t 15 rfl) hb15 rfl) rfl fun a F => ?_
   refine rT 12 F rfl (by kernel_rfl) pq rfl hS (fun w hS => x_move (F.t 21 rfl)) rfl fun a F => ?_
   refine rO 13 F rfl (by kernel_rfl) pq ((wo F rfl).trans rfl) hS rfl fun a F => ?_
   refine rO 14 F rfl (by kernel_rfl) pq ((wo F rfl).trans rfl) hS rfl fun a F => ?_
   refine rO 15 F rfl (by kernel_rfl) pq ((wo F rfl).trans rfl) hS rfl fun a F => ?_
   refine rO 16 F rfl (by kernel_rfl) pq (wanted_un F rfl rfl rfl rfl) hS rfl fun a F => ?_
   refine rO 17 F rfl (by kernel_rfl) pq (wanted_un F rfl rfl rfl rfl) hS rfl fun a F => ?_
   refine rO 18 F rfl (by kernel_rfl) pq (wanted_un F rfl rfl rfl rfl) hS rfl fun a F => ?_
   refine rO 19 F rfl (by kernel_rfl) pq (wanted_un F rfl rfl rfl rfl) hS rfl fun a F => ?_
   refine rO 20 F rfl (by kernel_rfl) pq (wanted_un F rfl rfl rfl rfl) hS rfl fun a F => ?_
   refine rO 21 F rfl (by kernel_rfl) pq (wanted_un F rfl rfl rfl rfl) hS rfl fun a F => ?_
   refine rO 22 F rfl (by kernel_rfl) pq (wanted_un F rfl rfl rfl rfl) hS rfl fun a F => ?_
   refine rO 23 F rfl (by kernel_rfl) pq (wanted_un F rfl rfl rfl rfl) hS rfl fun a F => ?_
   refine rO 24 F rfl (by kernel_rfl) pq (wanted_un F rfl rfl rfl rfl) hS rfl fun a F => ?_
   refine rO 25 F rfl (by kernel_rfl) pq (wanted_un F rfl rfl rfl rfl) hS rfl fun a F => ?_
   refine rO 26 F rfl (by kernel_rfl) pq ((wo F rfl).trans rfl) hS rfl fun a F => ?_
   refine rT 27 F rfl (by kernel_rfl) pq rfl hS (fun w hS => x_pickT (F.t 22 rfl) rfl rfl) rfl fun a F => ?_
   refine r_end (by kernel_rfl) ?_; clear hS
   refine hK7 _ _ ?_
   refine wp_cond_true (F.t 37 rfl) ?_
   refine sr fun _ hK8 => ?_
   refine la F rfl (x_assign rfl) fun a F => ?_
   refine wn (hK8 _ _ ?_)
   refine wp_ret ?_
   try simp only [Exit.then, Exit.inBlock]
   have hz := nodes_bad (l := xs) (k := k) (by omega) hq0_1 (by omega)
   exact fin_ret F (res1 (v := .bool false) F rfl rfl) ⟨by rw [hz]; rfl, H.mods⟩
  have hc15 := hb15; try simp only [bL] at hc15
  refine rT 6 F rfl (by kernel_rfl) pq ((wo F rfl).trans (by rw [hb15]; rfl)) hS (fun w hS => x_move (F.t 0 rfl)) rfl fun a F => ?_
  refine rT 7 F rfl (by kernel_rfl) pq ((wo F rfl).trans (by rw [hb15]; rfl)) hS (fun w hS => x_move (F.t 3 rfl)) rfl fun a F => ?_
  refine rT 8 F rfl (by kernel_rfl) pq ((wo F rfl).trans (by rw [hb15]; rfl)) hS (fun w hS => x_iaddr_A Tryz.underlying23 ty3 ((H.rd 901 rfl)) (F.t 16 rfl) (F.t 17 rfl) (by omega) (by omega) _) rfl fun a F => ?_
  refine rT 9 F rfl (by kernel_rfl) pq ((wo F rfl).trans (by rw [hb15]; rfl)) hS (fun w hS => x_load1 ty3 (F.t 18 rfl) (((SL.rd hS 901 rfl)).cellA (gi_some (i := (k : Int)) (by omega) (by omega)))) rfl fun a F => ?_
  refine rT 10 F rfl (by kernel_rfl) pq ((wo F rfl).trans (by rw [hb15]; rfl)) hS (fun w hS => x_geq (F.t 19 rfl) rfl) rfl fun a F => ?_
  refine rT 11 F rfl (by kernel_rfl) pq rfl hS (fun w hS => x_pickF (F.t 15 rfl) hb15 (F.t 20 rfl)) rfl fun a F => ?_
  refine rT 12 F rfl (by kernel_rfl) pq rfl hS (fun w hS => x_move (F.t 21 rfl)) rfl fun a F => ?_
  refine split_bool F 22 rfl (fun hb22 => ?_) (fun hb22 => ?_)
  ·have hc22 := hb22; try simp only [bL] at hc22
   refine rO 13 F rfl (by kernel_rfl) pq ((wo F rfl).trans (by rw [hb22]; rfl)) hS rfl fun a F => ?_
   refine rO 14 F rfl (by kernel_rfl) pq ((wo F rfl).trans (by rw [hb22]; rfl)) hS rfl fun a F => ?_
   refine rO 15 F rfl (by kernel_rfl) pq ((wo F rfl).trans (by rw [hb22]; rfl)) hS rfl fun a F => ?_
   refine rO 16 F rfl (by kernel_rfl) pq (wanted_un F rfl rfl rfl rfl) hS rfl fun a F => ?_
   refine rO 17 F rfl (by kernel_rfl) pq (wanted_un F rfl rfl rfl rfl) hS rfl fun a F => ?_
   refine rO 18 F rfl (by kernel_rfl) pq (wanted_un F rfl rfl rfl rfl) hS rfl fun a F => ?_
   refine rO 19 F rfl (by kernel_rfl) pq (wanted_un F rfl rfl rfl rfl) hS rfl fun a F => ?_
   refine rO 20 F rfl (by kernel_rfl) pq (wanted_un F rfl rfl rfl rfl) hS rfl fun a F => ?_
   refine rO 21 F rfl (by kernel_rfl) pq (wanted_un F rfl rfl rfl rfl) hS rfl fun a F => ?_
   refine rO 22 F rfl (by kernel_rfl) pq (wanted_un F rfl rfl rfl rfl) hS rfl fun a F => ?_
   refine rO 23 F rfl (by kernel_rfl) pq (wanted_un F rfl rfl rfl rfl) hS rfl fun a F => ?_
   refine rO 24 F rfl (by kernel_rfl) pq (wanted_un F rfl rfl rfl rfl) hS rfl fun a F => ?_
   refine rO 25 F rfl (by kernel_rfl) pq (wanted_un F rfl rfl rfl rfl) hS rfl fun a F => ?_
   refine rO 26 F rfl (by kernel_rfl) pq ((wo F rfl).trans (by rw [hb22]; rfl)) hS rfl fun a F => ?_
   refine rT 27 F rfl (by kernel_rfl) pq rfl hS (fun w hS => x_pickT (F.t 22 rfl) hb22 rfl) rfl fun a F => ?_
   refine r_end (by kernel_rfl) ?_; clear hS
   refine hK7 _ _ ?_
   refine wp_cond_true (F.t 37 rfl) ?_
   refine sr fun _ hK9 => ?_
   refine la F rfl (x_assign rfl) fun a F => ?_
   refine wn (hK9 _ _ ?_)
   refine wp_ret ?_
   try simp only [Exit.then, Exit.inBlock]
   have hz := nodes_bad (l := xs) (k := k) (by omega) hq0_1 (by omega)
   exact fin_ret F (res1 (v := .bool false) F rfl rfl) ⟨by rw [hz]; rfl, H.mods⟩
  have hc22 := hb22; try simp only [bL] at hc22
  refine rT 13 F rfl (by kernel_rfl) pq ((wo F rfl).trans (by rw [hb22]; rfl)) hS (fun w hS => x_move (F.t 3 rfl)) rfl fun a F => ?_
  refine rT 14 F rfl (by kernel_rfl) pq ((wo F rfl).trans (by rw [hb22]; rfl)) hS (fun w hS => x_gtr (F.t 23 rfl) rfl) rfl fun a F => ?_
  refine rT 15 F rfl (by kernel_rfl) pq ((wo F rfl).trans (by rw [hb22]; rfl)) hS (fun w hS => x_move (F.t 24 rfl)) rfl fun a F => ?_
  refine split_bool F 25 rfl (fun hb25 => ?_) (fun hb25 => ?_)
  ·have hc25 := hb25; try simp only [bL] at hc25
   refine rT 16 F rfl (by kernel_rfl) pq ((wo F rfl).trans (by rw [hb25]; rfl)) hS (fun w hS => x_move (F.t 0 rfl)) rfl fun a F => ?_
   refine rT 17 F rfl (by kernel_rfl) pq ((wo F rfl).trans (by rw [hb25]; rfl)) hS (fun w hS => x_move (F.t 3 rfl)) rfl fun a F => ?_
   refine rT 18 F rfl (by kernel_rfl) pq ((wo F rfl).trans (by rw [hb25]; rfl)) hS (fun w hS => x_sub (F.t 27 rfl) rfl (w64 (by omega) (by omega))) rfl fun a F => ?_
   refine rT 19 F rfl (by kernel_rfl) pq ((wo F rfl).trans (by rw [hb25]; rfl)) hS (fun w hS => x_iaddr_A Tryz.underlying23 ty3 ((H.rd 901 rfl)) (F.t 26 rfl) (F.t 28 rfl) (by omega) (by omega) _) rfl fun a F => ?_
   refine rT 20 F rfl (by kernel_rfl) pq ((wo F rfl).trans (by rw [hb25]; rfl)) hS (fun w hS => x_load1 ty3 (F.t 29 rfl) (((SL.rd hS 901 rfl)).cellA (gi_some (i := ((k : Int) - 1)) (by omega) (by omega)))) rfl fun a F => ?_
   refine rT 21 F rfl (by kernel_rfl) pq ((wo F rfl).trans (by rw [hb25]; rfl)) hS (fun w hS => x_move (F.t 0 rfl)) rfl fun a F => ?_
   refine rT 22 F rfl (by kernel_rfl) pq ((wo F rfl).trans (by rw [hb25]; rfl)) hS (fun w hS => x_move (F.t 3 rfl)) rfl fun a F => ?_
   refine rT 23 F rfl (by kernel_rfl) pq ((wo F rfl).trans (by rw [hb25]; rfl)) hS (fun w hS => x_iaddr_A Tryz.underlying23 ty3 ((H.rd 901 rfl)) (F.t 31 rfl) (F.t 32 rfl) (by omega) (by omega) _) rfl fun a F => ?_
   refine rT 24 F rfl (by kernel_rfl) pq ((wo F rfl).trans (by rw [hb25]; rfl)) hS (fun w hS => x_load1 ty3 (F.t 33 rfl) (((SL.rd hS 901 rfl)).cellA (gi_some (i := (k : Int)) (by omega) (by omega)))) rfl fun a F => ?_
   refine rT 25 F rfl (by kernel_rfl) pq ((wo F rfl).trans (by rw [hb25]; rfl)) hS (fun w hS => x_geq (F.t 30 rfl) (F.t 34 rfl)) rfl fun a F => ?_
   refine rT 26 F rfl (by kernel_rfl) pq ((wo F rfl).trans (by rw [hb22]; rfl)) hS (fun w hS => x_pickT (F.t 25 rfl) hb25 (F.t 35 rfl)) rfl fun a F => ?_
   refine rT 27 F rfl (by kernel_rfl) pq rfl hS (fun w hS => x_pickF (F.t 22 rfl) hb22 (F.t 36 rfl)) rfl fun a F => ?_
   refine r_end (by kernel_rfl) ?_; clear hS
   refine hK7 _ _ ?_
   refine wp_cond_split (F.t 37 rfl) (fun hc37 => ?_) (fun hc37 => ?_)
   ·have hk37_2 := hc37; try simp only [bL] at hc37
    refine sr fun _ hK10 => ?_
    refine la F rfl (x_assign rfl) fun a F => ?_
    refine wn (hK10 _ _ ?_)
    refine wp_ret ?_
    try simp only [Exit.then, Exit.inBlock]
    have hz := nodes_bad (l := xs) (k := k) (by omega) hq0_1 (by omega)
    exact fin_ret F (res1 (v := .bool false) F rfl rfl) ⟨by rw [hz]; rfl, H.mods⟩
   have hk37_3 := hc37; try simp only [bL] at hc37
   refine wp_skip ?_
   refine hK6 _ _ ?_
   refine wp_region_lit ?_
   refine la F rfl (x_move (F.t 3 rfl)) fun a F => ?_
   refine la F rfl (x_add (F.t 8 rfl) rfl (w64 (by omega) (by omega))) fun a F => ?_
   refine la F rfl (x_assign (F.t 9 rfl)) fun a F => ?_
   refine wpList_nil ?_
   exact ⟨_, by omega, ⟨k + 1, rfl, by omega, nodes_step (by omega) hq0_1 (by omega) (by omega) (by omega), ((F.bare.add F 3 rfl).add F 0 rfl), H.sub _ (sub_cons (sub_nil _) 901 rfl)⟩⟩
  have hc25 := hb25; try simp only [bL] at hc25
  refine rO 16 F rfl (by kernel_rfl) pq ((wo F rfl).trans (by rw [hb25]; rfl)) hS rfl fun a F => ?_
  refine rO 17 F rfl (by kernel_rfl) pq ((wo F rfl).trans (by rw [hb25]; rfl)) hS rfl fun a F => ?_
  refine rO 18 F rfl (by kernel_rfl) pq ((wo F rfl).trans (by rw [hb25]; rfl)) hS rfl fun a F => ?_
  refine rO 19 F rfl (by kernel_rfl) pq ((wo F rfl).trans (by rw [hb25]; rfl)) hS rfl fun a F => ?_
  refine rO 20 F rfl (by kernel_rfl) pq ((wo F rfl).trans (by rw [hb25]; rfl)) hS rfl fun a F => ?_
  refine rO 21 F rfl (by kernel_rfl) pq ((wo F rfl).trans (by rw [hb25]; rfl)) hS rfl fun a F => ?_
  refine rO 22 F rfl (by kernel_rfl) pq ((wo F rfl).trans (by rw [hb25]; rfl)) hS rfl fun a F => ?_
  refine rO 23 F rfl (by kernel_rfl) pq ((wo F rfl).trans (by rw [hb25]; rfl)) hS rfl fun a F => ?_
  refine rO 24 F rfl (by kernel_rfl) pq ((wo F rfl).trans (by rw [hb25]; rfl)) hS rfl fun a F => ?_
  refine rO 25 F rfl (by kernel_rfl) pq ((wo F rfl).trans (by rw [hb25]; rfl)) hS rfl fun a F => ?_
  refine rT 26 F rfl (by kernel_rfl) pq ((wo F rfl).trans (by rw [hb22]; rfl)) hS (fun w hS => x_pickF (F.t 25 rfl) hb25 rfl) rfl fun a F => ?_
  refine rT 27 F rfl (by kernel_rfl) pq rfl hS (fun w hS => x_pickF (F.t 22 rfl) hb22 (F.t 36 rfl)) rfl fun a F => ?_
  refine r_end (by kernel_rfl) ?_; clear hS
  refine hK7 _ _ ?_
  refine wp_cond_false (F.t 37 rfl) ?_
  refine wp_skip ?_
  refine hK6 _ _ ?_
  refine wp_region_lit ?_
  refine la F rfl (x_move (F.t 3 rfl)) fun a F => ?_
  refine la F rfl (x_add (F.t 8 rfl) rfl (w64 (by omega) (by omega))) fun a F => ?_
  refine la F rfl (x_assign (F.t 9 rfl)) fun a F => ?_
  refine wpList_nil ?_
  exact ⟨_, by omega, ⟨k + 1, rfl, by omega, nodes_step (by omega) hq0_1 (by omega) (by omega) (by omega), ((F.bare.add F 3 rfl).add F 0 rfl), H.sub _ (sub_cons (sub_nil _) 901 rfl)⟩⟩
 have hk7_4 := hc7; try simp only [bL] at hc7
 refine wp_exit ?_
 refine hK2 _ _ ?_
 refine sr fun _ hK11 => ?_
 refine la F rfl (x_move (F.t 0 rfl)) fun a F => ?_
 refine la F rfl (x_len_slice Tryz.underlying23 (F.t 38 rfl)) fun a F => ?_
 refine la F rfl (x_gtr (F.t 39 rfl) rfl) fun a F => ?_
 refine la F rfl (x_assign (F.t 40 rfl)) fun a F => ?_
 refine wn (hK11 _ _ ?_)
 refine wp_ret ?_
 try simp only [Exit.then, Exit.inBlock]
 have hz := nodes_end (l := xs) (k := k) (by omega) hq0_1
 exact fin_ret F (res1 (v := .bool (decide (0 < (xs.length : Int)))) F rfl rfl) ⟨by rw [hz]; rfl, H.mods⟩
theorem r16right_calls (w0 : World) {m : MessageD} {okm0 : Nat → Prop} {Am0 : Option Addr} {cm0 : Nat} (hrm0 : Rd (Rep.int .i64) w0 okm0 Am0 m.nodes cm0) {okm1 : Nat → Prop} {Am1 : Option Addr} {cm1 : Nat} (hrm1 : Rd ChgE w0 okm1 Am1 m.changes cm1) (hb : MessageB m) : Calls Tryz.prog 13 #[.agg #[.int .i64 m.kind, .int .i64 m.src, .int .i64 m.dst, .int .i64 m.tx, .slice Am0 m.nodes.length cm0, .slice Am1 m.changes.length cm1]] w0 fun e w' => e = .returned (.bool (rightM m)) ∧ Mods (fun _ => False) w0 w' := by
 refine cow Tryz.func13 rfl Tryz.ntmps13 (Nat.le_of_ble_eq_true rfl) fun a F => ?_
 have H := Hp.nil (fun _ => False) w0
 have H := H.arg 900 hrm0.all (fun _ h => ⟨h, fun h => h⟩)
 have hlem0 := hrm0.le; unfold maxLen at hlem0
 have H := H.arg 901 hrm1.all (fun _ h => ⟨h, fun h => h⟩)
 have hlem1 := hrm1.le; unfold maxLen at hlem1
 refine sr fun _ hK1 => ?_
 refine lp rfl ?_
 refine w_box 1 F H rfl (F.t 0 rfl) ?_
 clear F H; intro a w b1 F H
 refine la F rfl (x_assign rfl) fun a F => ?_
 refine wn (hK1 _ _ ?_)
 refine wp_seq_k fun _ hK2 => ?_
 refine sr fun _ hK3 => ?_
 refine la F rfl (x_faddr Tryz.underlying26 rfl ty22 (by decide) (F.t 1 rfl) rfl) fun a F => ?_
 refine la F rfl (x_load1 ty22 (F.t 8 rfl) (blk_cell (H.at 1 rfl) 0 rfl)) fun a F => ?_
 refine la F rfl (x_lss (F.t 9 rfl) rfl) fun a F => ?_
 refine la F rfl (x_move (F.t 10 rfl)) fun a F => ?_
 refine split_bool F 11 rfl (fun hb11 => ?_) (fun hb11 => ?_)
 ·have hc11 := hb11; try simp only [bL] at hc11
  refine los F hb11 rfl fun a F => ?_
  refine los F hb11 rfl fun a F => ?_
  refine los F hb11 rfl fun a F => ?_
  refine la F rfl (x_pickT (F.t 11 rfl) hb11 rfl) fun a F => ?_
  refine la F rfl (x_move (F.t 15 rfl)) fun a F => ?_
  refine lo F rfl fun a F => ?_
  refine lo F rfl fun a F => ?_
  refine lo F rfl fun a F => ?_
  refine la F rfl (x_pickT (F.t 16 rfl) rfl rfl) fun a F => ?_
  refine la F rfl (x_move (F.t 20 rfl)) fun a F => ?_
  refine lo F rfl fun a F => ?_
  refine lo F rfl fun a F => ?_
  refine lo F rfl fun a F => ?_
  refine la F rfl (x_pickT (F.t 21 rfl) rfl rfl) fun a F => ?_
  refine la F rfl (x_move (F.t 25 rfl)) fun a F => ?_
  refine lo F rfl fun a F => ?_
  refine lo F rfl fun a F => ?_
  refine lo F rfl fun a F => ?_
  refine la F rfl (x_pickT (F.t 26 rfl) rfl rfl) fun a F => ?_
  refine la F rfl (x_move (F.t 30 rfl)) fun a F => ?_
  refine lo F rfl fun a F => ?_
  refine lo F rfl fun a F => ?_
  refine lo F rfl fun a F => ?_
  refine la F rfl (x_pickT (F.t 31 rfl) rfl rfl) fun a F => ?_
  refine la F rfl (x_move (F.t 35 rfl)) fun a F => ?_
  refine lo F rfl fun a F => ?_
  refine lo F rfl fun a F => ?_
  refine lo F rfl fun a F => ?_
  refine la F rfl (x_pickT (F.t 36 rfl) rfl rfl) fun a F => ?_
  refine la F rfl (x_move (F.t 40 rfl)) fun a F => ?_
  refine lo F rfl fun a F => ?_
  refine lo F rfl fun a F => ?_
  refine lo F rfl fun a F => ?_
  refine la F rfl (x_pickT (F.t 41 rfl) rfl rfl) fun a F => ?_
  refine wn (hK3 _ _ ?_)
  refine wp_cond_true (F.t 45 rfl) ?_
  refine sr fun _ hK4 => ?_
  refine la F rfl (x_assign rfl) fun a F => ?_
  refine wn (hK4 _ _ ?_)
  refine wp_ret ?_
  try simp only [Exit.then, Exit.inBlock]
  have hz : rightM m = false := rightM_out (by omega)
  exact fin_ret F (res1 (v := .bool false) F rfl rfl) ⟨by rw [hz], H.mods⟩
 have hc11 := hb11; try simp only [bL] at hc11
 refine lgs F hb11 rfl (x_faddr Tryz.underlying26 rfl ty22 (by decide) (F.t 1 rfl) rfl) fun a F => ?_
 refine lgs F hb11 rfl (x_load1 ty22 (F.t 12 rfl) (blk_cell (H.at 1 rfl) 0 rfl)) fun a F => ?_
 refine lgs F hb11 rfl (x_gtr (F.t 13 rfl) rfl) fun a F => ?_
 refine la F rfl (x_pickF (F.t 11 rfl) hb11 (F.t 14 rfl)) fun a F => ?_
 refine la F rfl (x_move (F.t 15 rfl)) fun a F => ?_
 refine split_bool F 16 rfl (fun hb16 => ?_) (fun hb16 => ?_)
 ·have hc16 := hb16; try simp only [bL] at hc16
  refine los F hb16 rfl fun a F => ?_
  refine los F hb16 rfl fun a F => ?_
  refine los F hb16 rfl fun a F => ?_
  refine la F rfl (x_pickT (F.t 16 rfl) hb16 rfl) fun a F => ?_
  refine la F rfl (x_move (F.t 20 rfl)) fun a F => ?_
  refine lo F rfl fun a F => ?_
  refine lo F rfl fun a F => ?_
  refine lo F rfl fun a F => ?_
  refine la F rfl (x_pickT (F.t 21 rfl) rfl rfl) fun a F => ?_
  refine la F rfl (x_move (F.t 25 rfl)) fun a F => ?_
  refine lo F rfl fun a F => ?_
  refine lo F rfl fun a F => ?_
  refine lo F rfl fun a F => ?_
  refine la F rfl (x_pickT (F.t 26 rfl) rfl rfl) fun a F => ?_
  refine la F rfl (x_move (F.t 30 rfl)) fun a F => ?_
  refine lo F rfl fun a F => ?_
  refine lo F rfl fun a F => ?_
  refine lo F rfl fun a F => ?_
  refine la F rfl (x_pickT (F.t 31 rfl) rfl rfl) fun a F => ?_
  refine la F rfl (x_move (F.t 35 rfl)) fun a F => ?_
  refine lo F rfl fun a F => ?_
  refine lo F rfl fun a F => ?_
  refine lo F rfl fun a F => ?_
  refine la F rfl (x_pickT (F.t 36 rfl) rfl rfl) fun a F => ?_
  refine la F rfl (x_move (F.t 40 rfl)) fun a F => ?_
  refine lo F rfl fun a F => ?_
  refine lo F rfl fun a F => ?_
  refine lo F rfl fun a F => ?_
  refine la F rfl (x_pickT (F.t 41 rfl) rfl rfl) fun a F => ?_
  refine wn (hK3 _ _ ?_)
  refine wp_cond_true (F.t 45 rfl) ?_
  refine sr fun _ hK5 => ?_
  refine la F rfl (x_assign rfl) fun a F => ?_
  refine wn (hK5 _ _ ?_)
  refine wp_ret ?_
  try simp only [Exit.then, Exit.inBlock]
  have hz : rightM m = false := rightM_out (by omega)
  exact fin_ret F (res1 (v := .bool false) F rfl rfl) ⟨by rw [hz], H.mods⟩
 have hc16 := hb16; try simp only [bL] at hc16
 refine lgs F hb16 rfl (x_faddr Tryz.underlying26 rfl ty3 (by decide) (F.t 1 rfl) rfl) fun a F => ?_
 refine lgs F hb16 rfl (x_load1 ty3 (F.t 17 rfl) (blk_cell (H.at 1 rfl) 1 rfl)) fun a F => ?_
 refine lgs F hb16 rfl (x_lss (F.t 18 rfl) rfl) fun a F => ?_
 refine la F rfl (x_pickF (F.t 16 rfl) hb16 (F.t 19 rfl)) fun a F => ?_
 refine la F rfl (x_move (F.t 20 rfl)) fun a F => ?_
 refine split_bool F 21 rfl (fun hb21 => ?_) (fun hb21 => ?_)
 ·have hc21 := hb21; try simp only [bL] at hc21
  refine los F hb21 rfl fun a F => ?_
  refine los F hb21 rfl fun a F => ?_
  refine los F hb21 rfl fun a F => ?_
  refine la F rfl (x_pickT (F.t 21 rfl) hb21 rfl) fun a F => ?_
  refine la F rfl (x_move (F.t 25 rfl)) fun a F => ?_
  refine lo F rfl fun a F => ?_
  refine lo F rfl fun a F => ?_
  refine lo F rfl fun a F => ?_
  refine la F rfl (x_pickT (F.t 26 rfl) rfl rfl) fun a F => ?_
  refine la F rfl (x_move (F.t 30 rfl)) fun a F => ?_
  refine lo F rfl fun a F => ?_
  refine lo F rfl fun a F => ?_
  refine lo F rfl fun a F => ?_
  refine la F rfl (x_pickT (F.t 31 rfl) rfl rfl) fun a F => ?_
  refine la F rfl (x_move (F.t 35 rfl)) fun a F => ?_
  refine lo F rfl fun a F => ?_
  refine lo F rfl fun a F => ?_
  refine lo F rfl fun a F => ?_
  refine la F rfl (x_pickT (F.t 36 rfl) rfl rfl) fun a F => ?_
  refine la F rfl (x_move (F.t 40 rfl)) fun a F => ?_
  refine lo F rfl fun a F => ?_
  refine lo F rfl fun a F => ?_
  refine lo F rfl fun a F => ?_
  refine la F rfl (x_pickT (F.t 41 rfl) rfl rfl) fun a F => ?_
  refine wn (hK3 _ _ ?_)
  refine wp_cond_true (F.t 45 rfl) ?_
  refine sr fun _ hK6 => ?_
  refine la F rfl (x_assign rfl) fun a F => ?_
  refine wn (hK6 _ _ ?_)
  refine wp_ret ?_
  try simp only [Exit.then, Exit.inBlock]
  have hz : rightM m = false := rightM_out (by omega)
  exact fin_ret F (res1 (v := .bool false) F rfl rfl) ⟨by rw [hz], H.mods⟩
 have hc21 := hb21; try simp only [bL] at hc21
 refine lgs F hb21 rfl (x_faddr Tryz.underlying26 rfl ty3 (by decide) (F.t 1 rfl) rfl) fun a F => ?_
 refine lgs F hb21 rfl (x_load1 ty3 (F.t 22 rfl) (blk_cell (H.at 1 rfl) 1 rfl)) fun a F => ?_
 refine lgs F hb21 rfl (x_geq (F.t 23 rfl) rfl) fun a F => ?_
 refine la F rfl (x_pickF (F.t 21 rfl) hb21 (F.t 24 rfl)) fun a F => ?_
 refine la F rfl (x_move (F.t 25 rfl)) fun a F => ?_
 refine split_bool F 26 rfl (fun hb26 => ?_) (fun hb26 => ?_)
 ·have hc26 := hb26; try simp only [bL] at hc26
  refine los F hb26 rfl fun a F => ?_
  refine los F hb26 rfl fun a F => ?_
  refine los F hb26 rfl fun a F => ?_
  refine la F rfl (x_pickT (F.t 26 rfl) hb26 rfl) fun a F => ?_
  refine la F rfl (x_move (F.t 30 rfl)) fun a F => ?_
  refine lo F rfl fun a F => ?_
  refine lo F rfl fun a F => ?_
  refine lo F rfl fun a F => ?_
  refine la F rfl (x_pickT (F.t 31 rfl) rfl rfl) fun a F => ?_
  refine la F rfl (x_move (F.t 35 rfl)) fun a F => ?_
  refine lo F rfl fun a F => ?_
  refine lo F rfl fun a F => ?_
  refine lo F rfl fun a F => ?_
  refine la F rfl (x_pickT (F.t 36 rfl) rfl rfl) fun a F => ?_
  refine la F rfl (x_move (F.t 40 rfl)) fun a F => ?_
  refine lo F rfl fun a F => ?_
  refine lo F rfl fun a F => ?_
  refine lo F rfl fun a F => ?_
  refine la F rfl (x_pickT (F.t 41 rfl) rfl rfl) fun a F => ?_
  refine wn (hK3 _ _ ?_)
  refine wp_cond_true (F.t 45 rfl) ?_
  refine sr fun _ hK7 => ?_
  refine la F rfl (x_assign rfl) fun a F => ?_
  refine wn (hK7 _ _ ?_)
  refine wp_ret ?_
  try simp only [Exit.then, Exit.inBlock]
  have hz : rightM m = false := rightM_out (by omega)
  exact fin_ret F (res1 (v := .bool false) F rfl rfl) ⟨by rw [hz], H.mods⟩
 have hc26 := hb26; try simp only [bL] at hc26
 refine lgs F hb26 rfl (x_faddr Tryz.underlying26 rfl ty3 (by decide) (F.t 1 rfl) rfl) fun a F => ?_
 refine lgs F hb26 rfl (x_load1 ty3 (F.t 27 rfl) (blk_cell (H.at 1 rfl) 2 rfl)) fun a F => ?_
 refine lgs F hb26 rfl (x_lss (F.t 28 rfl) rfl) fun a F => ?_
 refine la F rfl (x_pickF (F.t 26 rfl) hb26 (F.t 29 rfl)) fun a F => ?_
 refine la F rfl (x_move (F.t 30 rfl)) fun a F => ?_
 refine split_bool F 31 rfl (fun hb31 => ?_) (fun hb31 => ?_)
 ·have hc31 := hb31; try simp only [bL] at hc31
  refine los F hb31 rfl fun a F => ?_
  refine los F hb31 rfl fun a F => ?_
  refine los F hb31 rfl fun a F => ?_
  refine la F rfl (x_pickT (F.t 31 rfl) hb31 rfl) fun a F => ?_
  refine la F rfl (x_move (F.t 35 rfl)) fun a F => ?_
  refine lo F rfl fun a F => ?_
  refine lo F rfl fun a F => ?_
  refine lo F rfl fun a F => ?_
  refine la F rfl (x_pickT (F.t 36 rfl) rfl rfl) fun a F => ?_
  refine la F rfl (x_move (F.t 40 rfl)) fun a F => ?_
  refine lo F rfl fun a F => ?_
  refine lo F rfl fun a F => ?_
  refine lo F rfl fun a F => ?_
  refine la F rfl (x_pickT (F.t 41 rfl) rfl rfl) fun a F => ?_
  refine wn (hK3 _ _ ?_)
  refine wp_cond_true (F.t 45 rfl) ?_
  refine sr fun _ hK8 => ?_
  refine la F rfl (x_assign rfl) fun a F => ?_
  refine wn (hK8 _ _ ?_)
  refine wp_ret ?_
  try simp only [Exit.then, Exit.inBlock]
  have hz : rightM m = false := rightM_out (by omega)
  exact fin_ret F (res1 (v := .bool false) F rfl rfl) ⟨by rw [hz], H.mods⟩
 have hc31 := hb31; try simp only [bL] at hc31
 refine lgs F hb31 rfl (x_faddr Tryz.underlying26 rfl ty3 (by decide) (F.t 1 rfl) rfl) fun a F => ?_
 refine lgs F hb31 rfl (x_load1 ty3 (F.t 32 rfl) (blk_cell (H.at 1 rfl) 2 rfl)) fun a F => ?_
 refine lgs F hb31 rfl (x_geq (F.t 33 rfl) rfl) fun a F => ?_
 refine la F rfl (x_pickF (F.t 31 rfl) hb31 (F.t 34 rfl)) fun a F => ?_
 refine la F rfl (x_move (F.t 35 rfl)) fun a F => ?_
 refine split_bool F 36 rfl (fun hb36 => ?_) (fun hb36 => ?_)
 ·have hc36 := hb36; try simp only [bL] at hc36
  refine los F hb36 rfl fun a F => ?_
  refine los F hb36 rfl fun a F => ?_
  refine los F hb36 rfl fun a F => ?_
  refine la F rfl (x_pickT (F.t 36 rfl) hb36 rfl) fun a F => ?_
  refine la F rfl (x_move (F.t 40 rfl)) fun a F => ?_
  refine lo F rfl fun a F => ?_
  refine lo F rfl fun a F => ?_
  refine lo F rfl fun a F => ?_
  refine la F rfl (x_pickT (F.t 41 rfl) rfl rfl) fun a F => ?_
  refine wn (hK3 _ _ ?_)
  refine wp_cond_true (F.t 45 rfl) ?_
  refine sr fun _ hK9 => ?_
  refine la F rfl (x_assign rfl) fun a F => ?_
  refine wn (hK9 _ _ ?_)
  refine wp_ret ?_
  try simp only [Exit.then, Exit.inBlock]
  have hz : rightM m = false := rightM_out (by omega)
  exact fin_ret F (res1 (v := .bool false) F rfl rfl) ⟨by rw [hz], H.mods⟩
 have hc36 := hb36; try simp only [bL] at hc36
 refine lgs F hb36 rfl (x_faddr Tryz.underlying26 rfl ty3 (by decide) (F.t 1 rfl) rfl) fun a F => ?_
 refine lgs F hb36 rfl (x_load1 ty3 (F.t 37 rfl) (blk_cell (H.at 1 rfl) 3 rfl)) fun a F => ?_
 refine lgs F hb36 rfl (x_lss (F.t 38 rfl) rfl) fun a F => ?_
 refine la F rfl (x_pickF (F.t 36 rfl) hb36 (F.t 39 rfl)) fun a F => ?_
 refine la F rfl (x_move (F.t 40 rfl)) fun a F => ?_
 refine split_bool F 41 rfl (fun hb41 => ?_) (fun hb41 => ?_)
 ·have hc41 := hb41; try simp only [bL] at hc41
  refine los F hb41 rfl fun a F => ?_
  refine los F hb41 rfl fun a F => ?_
  refine los F hb41 rfl fun a F => ?_
  refine la F rfl (x_pickT (F.t 41 rfl) hb41 rfl) fun a F => ?_
  refine wn (hK3 _ _ ?_)
  refine wp_cond_true (F.t 45 rfl) ?_
  refine sr fun _ hK10 => ?_
  refine la F rfl (x_assign rfl) fun a F => ?_
  refine wn (hK10 _ _ ?_)
  refine wp_ret ?_
  try simp only [Exit.then, Exit.inBlock]
  have hz : rightM m = false := rightM_out (by omega)
  exact fin_ret F (res1 (v := .bool false) F rfl rfl) ⟨by rw [hz], H.mods⟩
 have hc41 := hb41; try simp only [bL] at hc41
 refine lgs F hb41 rfl (x_faddr Tryz.underlying26 rfl ty3 (by decide) (F.t 1 rfl) rfl) fun a F => ?_
 refine lgs F hb41 rfl (x_load1 ty3 (F.t 42 rfl) (blk_cell (H.at 1 rfl) 3 rfl)) fun a F => ?_
 refine lgs F hb41 rfl (x_gtr (F.t 43 rfl) rfl) fun a F => ?_
 refine la F rfl (x_pickF (F.t 41 rfl) hb41 (F.t 44 rfl)) fun a F => ?_
 refine wn (hK3 _ _ ?_)
 refine wp_cond_split (F.t 45 rfl) (fun hc45 => ?_) (fun hc45 => ?_)
 ·have hk45_1 := hc45; try simp only [bL] at hc45
  refine sr fun _ hK11 => ?_
  refine la F rfl (x_assign rfl) fun a F => ?_
  refine wn (hK11 _ _ ?_)
  refine wp_ret ?_
  try simp only [Exit.then, Exit.inBlock]
  have hz : rightM m = false := rightM_out (by omega)
  exact fin_ret F (res1 (v := .bool false) F rfl rfl) ⟨by rw [hz], H.mods⟩
 have hk45_2 := hc45; try simp only [bL] at hc45
 refine wp_skip ?_
 refine hK2 _ _ ?_
 refine wp_seq_k fun _ hK12 => ?_
 refine sr fun _ hK13 => ?_
 refine la F rfl (x_faddr Tryz.underlying26 rfl ty22 (by decide) (F.t 1 rfl) rfl) fun a F => ?_
 refine la F rfl (x_load1 ty22 (F.t 46 rfl) (blk_cell (H.at 1 rfl) 0 rfl)) fun a F => ?_
 refine la F rfl (x_neq (F.t 47 rfl) rfl) fun a F => ?_
 refine wn (hK13 _ _ ?_)
 refine wp_cond_split (F.t 48 rfl) (fun hc48 => ?_) (fun hc48 => ?_)
 ·have hk48_3 := hc48; try simp only [bL] at hc48
  refine sr fun _ hK14 => ?_
  refine la F rfl (x_faddr Tryz.underlying26 rfl ty23 (by decide) (F.t 1 rfl) rfl) fun a F => ?_
  refine la F rfl (x_load1 ty23 (F.t 49 rfl) (blk_cell (H.at 1 rfl) 4 rfl)) fun a F => ?_
  refine la F rfl (x_len_slice Tryz.underlying23 (F.t 50 rfl)) fun a F => ?_
  refine la F rfl (x_eql (F.t 51 rfl) rfl) fun a F => ?_
  refine la F rfl (x_move (F.t 52 rfl)) fun a F => ?_
  refine split_bool F 53 rfl (fun hb53 => ?_) (fun hb53 => ?_)
  ·have hc53 := hb53; try simp only [bL] at hc53
   refine lgs F hb53 rfl (x_faddr Tryz.underlying26 rfl ty24 (by decide) (F.t 1 rfl) rfl) fun a F => ?_
   refine lgs F hb53 rfl (x_load1 ty24 (F.t 54 rfl) (blk_cell (H.at 1 rfl) 5 rfl)) fun a F => ?_
   refine lgs F hb53 rfl (x_len_slice Tryz.underlying24 (F.t 55 rfl)) fun a F => ?_
   refine lgs F hb53 rfl (x_eql (F.t 56 rfl) rfl) fun a F => ?_
   refine la F rfl (x_pickT (F.t 53 rfl) hb53 (F.t 57 rfl)) fun a F => ?_
   refine la F rfl (x_assign (F.t 58 rfl)) fun a F => ?_
   refine wn (hK14 _ _ ?_)
   refine wp_ret ?_
   try simp only [Exit.then, Exit.inBlock]
   have hz : (decide ((m.changes.length : Int) = 0)) = rightM m := by rw [rightM_in ⟨by omega, by omega, by omega, by omega, by omega, by omega, by omega, by omega⟩, if_neg (by omega)]; rw [Bool.eq_iff_iff]; simp only [Bool.and_eq_true, decide_eq_true_eq, Bool.false_eq_true, false_iff]; omega
   exact fin_ret F (res1 (v := .bool (decide ((m.changes.length : Int) = 0))) F rfl rfl) ⟨by rw [hz], H.mods⟩
  have hc53 := hb53; try simp only [bL] at hc53
  refine los F hb53 rfl fun a F => ?_
  refine los F hb53 rfl fun a F => ?_
  refine los F hb53 rfl fun a F => ?_
  refine los F hb53 rfl fun a F => ?_
  refine la F rfl (x_pickF (F.t 53 rfl) hb53 rfl) fun a F => ?_
  refine la F rfl (x_assign (F.t 58 rfl)) fun a F => ?_
  refine wn (hK14 _ _ ?_)
  refine wp_ret ?_
  try simp only [Exit.then, Exit.inBlock]
  have hz : false = rightM m := by rw [rightM_in ⟨by omega, by omega, by omega, by omega, by omega, by omega, by omega, by omega⟩, if_neg (by omega)]; rw [Bool.eq_iff_iff]; simp only [Bool.and_eq_true, decide_eq_true_eq, Bool.false_eq_true, false_iff]; omega
  exact fin_ret F (res1 (v := .bool false) F rfl rfl) ⟨by rw [hz], H.mods⟩
 have hk48_4 := hc48; try simp only [bL] at hc48
 refine wp_skip ?_
 refine hK12 _ _ ?_
 refine sr fun _ hK15 => ?_
 refine la F rfl (x_faddr Tryz.underlying26 rfl ty23 (by decide) (F.t 1 rfl) rfl) fun a F => ?_
 refine la F rfl (x_load1 ty23 (F.t 59 rfl) (blk_cell (H.at 1 rfl) 4 rfl)) fun a F => ?_
 refine lp rfl ?_
 refine w_call F (x_enter Tryz.func50 (by kernel_rfl) rfl (by simp only [bM, F.t 60 rfl] <;> rfl)) (r15nodes_calls _ ((H.rd 900 rfl))) rfl rfl ?_
 rintro _ w ⟨rfl, hm_⟩; refine ⟨_, rfl, ?_⟩; clear F; intro a F; have H := H.same hm_
 refine la F rfl (x_assign (F.t 61 rfl)) fun a F => ?_
 refine wn (hK15 _ _ ?_)
 refine sr fun khK16 hK16 => ?_
 refine la F rfl (x_assign rfl) fun a F => ?_
 refine wn (hK16 _ _ ?_)
 refine wp_seq_k fun _ hK17 => ?_
 refine sr fun _ hK18 => ?_
 refine la F rfl (x_assign rfl) fun a F => ?_
 refine wn (hK18 _ _ ?_)
 refine wp_block ?_
 refine wp_loop_ghost (fun n_ a w => ∃ k : Nat, ∃ b : Bool, n_ = m.nodes.length - k ∧ (k ≤ m.nodes.length) ∧ (b = decide (m.dst ∈ m.nodes.take k)) ∧ Fr 107 a [(1, .pointer (some ⟨b1, 0, none⟩)), (3, .bool (nodesFrom (-1) m.nodes && decide ((0 : Int) < (m.nodes.length : Int)))), (4, .bool b), (5, .int .i64 (k : Int))] ∧ Hp (fun _ => False) w0 w [(900, .rd_ (.int .i64) Am0 m.nodes cm0 (fun k => k < w0.heap.size)), (901, .rd_ ChgE Am1 m.changes cm1 (fun k => k < w0.heap.size)), (1, .blk b1 (.cells #[.int .i64 m.kind, .int .i64 m.src, .int .i64 m.dst, .int .i64 m.tx, .slice Am0 m.nodes.length cm0, .slice Am1 m.changes.length cm1] 26 (0, 0)))]) (m.nodes.length) ?_ ?_
 ·exact ⟨0, false, rfl, by omega, by simp, ((((F.bare.add F 5 rfl).add F 4 rfl).add F 3 rfl).add F 1 rfl), H.sub _ (sub_cons (sub_cons (sub_cons (sub_nil _) 1 rfl) 901 rfl) 900 rfl)⟩
 rintro _ a w ⟨k, b, rfl, hq0_0, hq0_1, F, H⟩
 refine wp_seq_k fun _ hK19 => ?_
 refine sr fun _ hK20 => ?_
 refine la F rfl (x_move (F.t 5 rfl)) fun a F => ?_
 refine la F rfl (x_faddr Tryz.underlying26 rfl ty23 (by decide) (F.t 1 rfl) rfl) fun a F => ?_
 refine la F rfl (x_load1 ty23 (F.t 63 rfl) (blk_cell (H.at 1 rfl) 4 rfl)) fun a F => ?_
 refine la F rfl (x_len_slice Tryz.underlying23 (F.t 64 rfl)) fun a F => ?_
 refine la F rfl (x_lss (F.t 62 rfl) (F.t 65 rfl)) fun a F => ?_
 refine wn (hK20 _ _ ?_)
 refine wp_cond_split (F.t 66 rfl) (fun hc66 => ?_) (fun hc66 => ?_)
 ·have hk66_5 := hc66; try simp only [bL] at hc66
  refine wp_skip ?_
  refine hK19 _ _ ?_
  refine wp_seq_k fun _ hK21 => ?_
  refine wp_block ?_
  refine r_start [(900, .rd_ (.int .i64) Am0 m.nodes cm0 (fun k => k < w0.heap.size)), (901, .rd_ ChgE Am1 m.changes cm1 (fun k => k < w0.heap.size)), (1, .blk b1 (.cells #[.int .i64 m.kind, .int .i64 m.src, .int .i64 m.dst, .int .i64 m.tx, .slice Am0 m.nodes.length cm0, .slice Am1 m.changes.length cm1] 26 (0, 0)))] (by kernel_rfl) H fun H => ?_
  have hS : SL [(900, .rd_ (.int .i64) Am0 m.nodes cm0 (fun k => k < w0.heap.size)), (901, .rd_ ChgE Am1 m.changes cm1 (fun k => k < w0.heap.size)), (1, .blk b1 (.cells #[.int .i64 m.kind, .int .i64 m.src, .int .i64 m.dst, .int .i64 m.tx, .slice Am0 m.nodes.length cm0, .slice Am1 m.changes.length cm1] 26 (0, 0)))] _ := SL.of H (sub_cons (sub_cons (sub_cons (sub_nil _) 1 rfl) 901 rfl) 900 rfl)
  refine rT 0 F rfl (by kernel_rfl) pq rfl hS (fun w hS => x_move (F.t 4 rfl)) rfl fun a F => ?_
  refine rT 1 F rfl (by kernel_rfl) pq rfl hS (fun w hS => x_move (F.t 69 rfl)) rfl fun a F => ?_
  refine split_bool F 70 rfl (fun hb70 => ?_) (fun hb70 => ?_)
  ·have hc70 := hb70; try simp only [bL] at hc70
   refine rO 2 F rfl (by kernel_rfl) pq ((wo F rfl).trans (by rw [hb70]; rfl)) hS rfl fun a F => ?_
   refine rO 3 F rfl (by kernel_rfl) pq ((wo F rfl).trans (by rw [hb70]; rfl)) hS rfl fun a F => ?_
   refine rO 4 F rfl (by kernel_rfl) pq ((wo F rfl).trans (by rw [hb70]; rfl)) hS rfl fun a F => ?_
   refine rO 5 F rfl (by kernel_rfl) pq ((wo F rfl).trans (by rw [hb70]; rfl)) hS rfl fun a F => ?_
   refine rO 6 F rfl (by kernel_rfl) pq ((wo F rfl).trans (by rw [hb70]; rfl)) hS rfl fun a F => ?_
   refine rO 7 F rfl (by kernel_rfl) pq ((wo F rfl).trans (by rw [hb70]; rfl)) hS rfl fun a F => ?_
   refine rO 8 F rfl (by kernel_rfl) pq ((wo F rfl).trans (by rw [hb70]; rfl)) hS rfl fun a F => ?_
   refine rO 9 F rfl (by kernel_rfl) pq ((wo F rfl).trans (by rw [hb70]; rfl)) hS rfl fun a F => ?_
   refine rT 10 F rfl (by kernel_rfl) pq rfl hS (fun w hS => x_pickT (F.t 70 rfl) hb70 rfl) rfl fun a F => ?_
   refine rT 11 F rfl (by kernel_rfl) pq rfl hS (fun w hS => x_assign (F.t 79 rfl)) rfl fun a F => ?_
   refine r_end (by kernel_rfl) ?_; clear hS
   refine hK21 _ _ ?_
   refine wp_region_lit ?_
   refine la F rfl (x_move (F.t 5 rfl)) fun a F => ?_
   refine la F rfl (x_add (F.t 67 rfl) rfl (w64 (by omega) (by omega))) fun a F => ?_
   refine la F rfl (x_assign (F.t 68 rfl)) fun a F => ?_
   refine wpList_nil ?_
   exact ⟨_, by omega, ⟨k + 1, true, rfl, by omega, by rw [in_step (by omega), ← hq0_1]; first | (simp [hc11, hc16, hc21, hc26, hc31, hc36, hc41, hc45, hc48, hc66, hc70]; done) | simp_all, ((((F.bare.add F 5 rfl).add F 4 rfl).add F 3 rfl).add F 1 rfl), H.sub _ (sub_cons (sub_cons (sub_cons (sub_nil _) 1 rfl) 901 rfl) 900 rfl)⟩⟩
  have hc70 := hb70; try simp only [bL] at hc70
  refine rT 2 F rfl (by kernel_rfl) pq ((wo F rfl).trans (by rw [hb70]; rfl)) hS (fun w hS => x_faddr Tryz.underlying26 rfl ty23 (by decide) (F.t 1 rfl) rfl) rfl fun a F => ?_
  refine rT 3 F rfl (by kernel_rfl) pq ((wo F rfl).trans (by rw [hb70]; rfl)) hS (fun w hS => x_load1 ty23 (F.t 71 rfl) (blk_cell (SL.at_ hS 1 rfl) 4 rfl)) rfl fun a F => ?_
  refine rT 4 F rfl (by kernel_rfl) pq ((wo F rfl).trans (by rw [hb70]; rfl)) hS (fun w hS => x_move (F.t 5 rfl)) rfl fun a F => ?_
  refine rT 5 F rfl (by kernel_rfl) pq ((wo F rfl).trans (by rw [hb70]; rfl)) hS (fun w hS => x_iaddr_A Tryz.underlying23 ty3 ((H.rd 900 rfl)) (F.t 72 rfl) (F.t 73 rfl) (by omega) (by omega) _) rfl fun a F => ?_
  refine rT 6 F rfl (by kernel_rfl) pq ((wo F rfl).trans (by rw [hb70]; rfl)) hS (fun w hS => x_load1 ty3 (F.t 74 rfl) (((SL.rd hS 900 rfl)).cellA (gi_some (i := (k : Int)) (by omega) (by omega)))) rfl fun a F => ?_
  refine rT 7 F rfl (by kernel_rfl) pq ((wo F rfl).trans (by rw [hb70]; rfl)) hS (fun w hS => x_faddr Tryz.underlying26 rfl ty3 (by decide) (F.t 1 rfl) rfl) rfl fun a F => ?_
  refine rT 8 F rfl (by kernel_rfl) pq ((wo F rfl).trans (by rw [hb70]; rfl)) hS (fun w hS => x_load1 ty3 (F.t 76 rfl) (blk_cell (SL.at_ hS 1 rfl) 2 rfl)) rfl fun a F => ?_
  refine rT 9 F rfl (by kernel_rfl) pq ((wo F rfl).trans (by rw [hb70]; rfl)) hS (fun w hS => x_eql (F.t 75 rfl) (F.t 77 rfl)) rfl fun a F => ?_
  refine rT 10 F rfl (by kernel_rfl) pq rfl hS (fun w hS => x_pickF (F.t 70 rfl) hb70 (F.t 78 rfl)) rfl fun a F => ?_
  refine rT 11 F rfl (by kernel_rfl) pq rfl hS (fun w hS => x_assign (F.t 79 rfl)) rfl fun a F => ?_
  refine r_end (by kernel_rfl) ?_; clear hS
  refine hK21 _ _ ?_
  refine wp_region_lit ?_
  refine la F rfl (x_move (F.t 5 rfl)) fun a F => ?_
  refine la F rfl (x_add (F.t 67 rfl) rfl (w64 (by omega) (by omega))) fun a F => ?_
  refine la F rfl (x_assign (F.t 68 rfl)) fun a F => ?_
  refine wpList_nil ?_
  exact ⟨_, by omega, ⟨k + 1, (decide ((gi m.nodes (k : Int)) = m.dst)), rfl, by omega, by rw [in_step (by omega), ← hq0_1]; first | (simp [hc11, hc16, hc21, hc26, hc31, hc36, hc41, hc45, hc48, hc66, hc70]; done) | simp_all, ((((F.bare.add F 5 rfl).add F 4 rfl).add F 3 rfl).add F 1 rfl), H.sub _ (sub_cons (sub_cons (sub_cons (sub_nil _) 1 rfl) 901 rfl) 900 rfl)⟩⟩
 have hk66_6 := hc66; try simp only [bL] at hc66
 obtain rfl : k = m.nodes.length := by omega
 rw [List.take_length] at hq0_1
 refine wp_exit ?_
 refine hK17 _ _ ?_
 refine wp_seq_k fun _ hK22 => ?_
 refine sr fun _ hK23 => ?_
 refine la F rfl (x_move (F.t 3 rfl)) fun a F => ?_
 refine la F rfl (x_not (F.t 80 rfl)) fun a F => ?_
 refine la F rfl (x_move (F.t 81 rfl)) fun a F => ?_
 refine split_bool F 82 rfl (fun hb82 => ?_) (fun hb82 => ?_)
 ·have hc82 := hb82; try simp only [bL] at hc82
  refine los F hb82 rfl fun a F => ?_
  refine los F hb82 rfl fun a F => ?_
  refine la F rfl (x_pickT (F.t 82 rfl) hb82 rfl) fun a F => ?_
  refine la F rfl (x_move (F.t 85 rfl)) fun a F => ?_
  refine lo F rfl fun a F => ?_
  refine lo F rfl fun a F => ?_
  refine lo F rfl fun a F => ?_
  refine lo F rfl fun a F => ?_
  refine la F rfl (x_pickT (F.t 86 rfl) rfl rfl) fun a F => ?_
  refine wn (hK23 _ _ ?_)
  refine wp_cond_true (F.t 91 rfl) ?_
  refine sr fun _ hK24 => ?_
  refine la F rfl (x_assign rfl) fun a F => ?_
  refine wn (hK24 _ _ ?_)
  refine wp_ret ?_
  try simp only [Exit.then, Exit.inBlock]
  have hz : rightM m = false := by first | exact rightM_no3 (by omega) (by omega) | (refine rightM_no1 (by omega) ?_; have h_ := hb82; revert h_; generalize (nodesFrom (-1) m.nodes && decide ((0 : Int) < (m.nodes.length : Int))) = q; cases q <;> simp; done) | (refine rightM_no1 (by omega) ?_; have h_ := hc82; revert h_; generalize (nodesFrom (-1) m.nodes && decide ((0 : Int) < (m.nodes.length : Int))) = q; cases q <;> simp; done) | (refine rightM_no2 (by omega) hq0_1 ?_; simpa using hb82) | (refine rightM_no2 (by omega) hq0_1 ?_; simpa using hc82)
  exact fin_ret F (res1 (v := .bool false) F rfl rfl) ⟨by rw [hz], H.mods⟩
 have hc82 := hb82; try simp only [bL] at hc82
 refine lgs F hb82 rfl (x_move (F.t 4 rfl)) fun a F => ?_
 refine lgs F hb82 rfl (x_not (F.t 83 rfl)) fun a F => ?_
 refine la F rfl (x_pickF (F.t 82 rfl) hb82 (F.t 84 rfl)) fun a F => ?_
 refine la F rfl (x_move (F.t 85 rfl)) fun a F => ?_
 refine split_bool F 86 rfl (fun hb86 => ?_) (fun hb86 => ?_)
 ·have hc86 := hb86; try simp only [bL] at hc86
  refine los F hb86 rfl fun a F => ?_
  refine los F hb86 rfl fun a F => ?_
  refine los F hb86 rfl fun a F => ?_
  refine los F hb86 rfl fun a F => ?_
  refine la F rfl (x_pickT (F.t 86 rfl) hb86 rfl) fun a F => ?_
  refine wn (hK23 _ _ ?_)
  refine wp_cond_true (F.t 91 rfl) ?_
  refine sr fun _ hK25 => ?_
  refine la F rfl (x_assign rfl) fun a F => ?_
  refine wn (hK25 _ _ ?_)
  refine wp_ret ?_
  try simp only [Exit.then, Exit.inBlock]
  have hz : rightM m = false := by first | exact rightM_no3 (by omega) (by omega) | (refine rightM_no1 (by omega) ?_; have h_ := hb82; revert h_; generalize (nodesFrom (-1) m.nodes && decide ((0 : Int) < (m.nodes.length : Int))) = q; cases q <;> simp; done) | (refine rightM_no1 (by omega) ?_; have h_ := hc82; revert h_; generalize (nodesFrom (-1) m.nodes && decide ((0 : Int) < (m.nodes.length : Int))) = q; cases q <;> simp; done) | (refine rightM_no1 (by omega) ?_; have h_ := hb86; revert h_; generalize (nodesFrom (-1) m.nodes && decide ((0 : Int) < (m.nodes.length : Int))) = q; cases q <;> simp; done) | (refine rightM_no1 (by omega) ?_; have h_ := hc86; revert h_; generalize (nodesFrom (-1) m.nodes && decide ((0 : Int) < (m.nodes.length : Int))) = q; cases q <;> simp; done) | (refine rightM_no2 (by omega) hq0_1 ?_; simpa using hb82) | (refine rightM_no2 (by omega) hq0_1 ?_; simpa using hc82) | (refine rightM_no2 (by omega) hq0_1 ?_; simpa using hb86) | (refine rightM_no2 (by omega) hq0_1 ?_; simpa using hc86)
  exact fin_ret F (res1 (v := .bool false) F rfl rfl) ⟨by rw [hz], H.mods⟩
 have hc86 := hb86; try simp only [bL] at hc86
 refine lgs F hb86 rfl (x_faddr Tryz.underlying26 rfl ty24 (by decide) (F.t 1 rfl) rfl) fun a F => ?_
 refine lgs F hb86 rfl (x_load1 ty24 (F.t 87 rfl) (blk_cell (H.at 1 rfl) 5 rfl)) fun a F => ?_
 refine lgs F hb86 rfl (x_len_slice Tryz.underlying24 (F.t 88 rfl)) fun a F => ?_
 refine lgs F hb86 rfl (x_gtr (F.t 89 rfl) rfl) fun a F => ?_
 refine la F rfl (x_pickF (F.t 86 rfl) hb86 (F.t 90 rfl)) fun a F => ?_
 refine wn (hK23 _ _ ?_)
 refine wp_cond_split (F.t 91 rfl) (fun hc91 => ?_) (fun hc91 => ?_)
 ·have hk91_7 := hc91; try simp only [bL] at hc91
  refine sr fun _ hK26 => ?_
  refine la F rfl (x_assign rfl) fun a F => ?_
  refine wn (hK26 _ _ ?_)
  refine wp_ret ?_
  try simp only [Exit.then, Exit.inBlock]
  have hz : rightM m = false := by first | exact rightM_no3 (by omega) (by omega) | (refine rightM_no1 (by omega) ?_; have h_ := hb82; revert h_; generalize (nodesFrom (-1) m.nodes && decide ((0 : Int) < (m.nodes.length : Int))) = q; cases q <;> simp; done) | (refine rightM_no1 (by omega) ?_; have h_ := hc82; revert h_; generalize (nodesFrom (-1) m.nodes && decide ((0 : Int) < (m.nodes.length : Int))) = q; cases q <;> simp; done) | (refine rightM_no1 (by omega) ?_; have h_ := hb86; revert h_; generalize (nodesFrom (-1) m.nodes && decide ((0 : Int) < (m.nodes.length : Int))) = q; cases q <;> simp; done) | (refine rightM_no1 (by omega) ?_; have h_ := hc86; revert h_; generalize (nodesFrom (-1) m.nodes && decide ((0 : Int) < (m.nodes.length : Int))) = q; cases q <;> simp; done) | (refine rightM_no1 (by omega) ?_; have h_ := hb91; revert h_; generalize (nodesFrom (-1) m.nodes && decide ((0 : Int) < (m.nodes.length : Int))) = q; cases q <;> simp; done) | (refine rightM_no1 (by omega) ?_; have h_ := hc91; revert h_; generalize (nodesFrom (-1) m.nodes && decide ((0 : Int) < (m.nodes.length : Int))) = q; cases q <;> simp; done) | (refine rightM_no2 (by omega) hq0_1 ?_; simpa using hb82) | (refine rightM_no2 (by omega) hq0_1 ?_; simpa using hc82) | (refine rightM_no2 (by omega) hq0_1 ?_; simpa using hb86) | (refine rightM_no2 (by omega) hq0_1 ?_; simpa using hc86) | (refine rightM_no2 (by omega) hq0_1 ?_; simpa using hb91) | (refine rightM_no2 (by omega) hq0_1 ?_; simpa using hc91)
  exact fin_ret F (res1 (v := .bool false) F rfl rfl) ⟨by rw [hz], H.mods⟩
 have hk91_8 := hc91; try simp only [bL] at hc91
 refine wp_skip ?_
 refine hK22 _ _ ?_
 refine wp_seq_k fun _ hK27 => ?_
 refine sr fun _ hK28 => ?_
 refine la F rfl (x_assign rfl) fun a F => ?_
 refine wn (hK28 _ _ ?_)
 refine wp_block ?_
 refine wp_loop_ghost (fun n_ a w => ∃ j : Nat, n_ = m.changes.length - j ∧ (j ≤ m.changes.length) ∧ ((m.changes.take j).all rightC = true) ∧ Fr 107 a [(1, .pointer (some ⟨b1, 0, none⟩)), (6, .int .i64 (j : Int))] ∧ Hp (fun _ => False) w0 w [(900, .rd_ (.int .i64) Am0 m.nodes cm0 (fun k => k < w0.heap.size)), (901, .rd_ ChgE Am1 m.changes cm1 (fun k => k < w0.heap.size)), (1, .blk b1 (.cells #[.int .i64 m.kind, .int .i64 m.src, .int .i64 m.dst, .int .i64 m.tx, .slice Am0 m.nodes.length cm0, .slice Am1 m.changes.length cm1] 26 (0, 0)))]) (m.changes.length) ?_ ?_
 ·exact ⟨0, rfl, by omega, rfl, ((F.bare.add F 6 rfl).add F 1 rfl), H.sub _ (sub_cons (sub_cons (sub_cons (sub_nil _) 1 rfl) 901 rfl) 900 rfl)⟩
 rintro _ a w ⟨j, rfl, hq2_0, hq2_1, F, H⟩
 refine wp_seq_k fun _ hK29 => ?_
 refine sr fun _ hK30 => ?_
 refine la F rfl (x_move (F.t 6 rfl)) fun a F => ?_
 refine la F rfl (x_faddr Tryz.underlying26 rfl ty24 (by decide) (F.t 1 rfl) rfl) fun a F => ?_
 refine la F rfl (x_load1 ty24 (F.t 93 rfl) (blk_cell (H.at 1 rfl) 5 rfl)) fun a F => ?_
 refine la F rfl (x_len_slice Tryz.underlying24 (F.t 94 rfl)) fun a F => ?_
 refine la F rfl (x_lss (F.t 92 rfl) (F.t 95 rfl)) fun a F => ?_
 refine wn (hK30 _ _ ?_)
 refine wp_cond_split (F.t 96 rfl) (fun hc96 => ?_) (fun hc96 => ?_)
 ·have hk96_9 := hc96; try simp only [bL] at hc96
  refine wp_skip ?_
  refine hK29 _ _ ?_
  refine wp_seq_k fun _ hK31 => ?_
  refine wp_block ?_
  refine sr fun _ hK32 => ?_
  obtain ⟨fA1, fc1, hfr1, hf1_0, hf1_1, hf1_2, hf1_3, hf1_4, hf1_5, hf1_6, hf1_7, hfw1⟩ := rd_chg ((H.rd 901 rfl)) (gchg_some (xs := m.changes) (i := (j : Int)) (by omega) (by omega))
  have H := H.subrd 901 rfl 1007 hfr1 (fun _ h => h)
  have H := H.subcels 901 rfl 1499 hfw1 (Rd.inok ((H.rd 901 rfl)) (by omega) _)
  have H := H.subcel 901 rfl 1500 hf1_0 (Rd.inok ((H.rd 901 rfl)) (by omega) _)
  have H := H.subcel 901 rfl 1501 hf1_1 (Rd.inok ((H.rd 901 rfl)) (by omega) _)
  have H := H.subcel 901 rfl 1502 hf1_2 (Rd.inok ((H.rd 901 rfl)) (by omega) _)
  have H := H.subcel 901 rfl 1503 hf1_3 (Rd.inok ((H.rd 901 rfl)) (by omega) _)
  have H := H.subcel 901 rfl 1504 hf1_4 (Rd.inok ((H.rd 901 rfl)) (by omega) _)
  have H := H.subcel 901 rfl 1505 hf1_5 (Rd.inok ((H.rd 901 rfl)) (by omega) _)
  have H := H.subcel 901 rfl 1506 hf1_6 (Rd.inok ((H.rd 901 rfl)) (by omega) _)
  have H := H.subcel 901 rfl 1507 hf1_7 (Rd.inok ((H.rd 901 rfl)) (by omega) _)
  refine la F rfl (x_faddr Tryz.underlying26 rfl ty24 (by decide) (F.t 1 rfl) rfl) fun a F => ?_
  refine la F rfl (x_load1 ty24 (F.t 99 rfl) (blk_cell (H.at 1 rfl) 5 rfl)) fun a F => ?_
  refine la F rfl (x_move (F.t 6 rfl)) fun a F => ?_
  refine la F rfl (x_iaddr_A Tryz.underlying24 ty66 ((H.rd 901 rfl)) (F.t 100 rfl) (F.t 101 rfl) (by omega) (by omega) _) fun a F => ?_
  refine la F rfl (x_loadn ty66 (F.t 102 rfl) rfl (H.holds 1499 _ rfl)) fun a F => ?_
  refine lp rfl ?_
  refine w_call F (x_enter Tryz.func51 (by kernel_rfl) rfl (by simp only [bM, F.t 103 rfl] <;> rfl)) (r12right_calls (c := (gchg m.changes (j : Int))) _ ((H.rd 1007 rfl)) (hb.changes _ (gchg_mem (xs := m.changes) (j := j) (by omega)))) rfl rfl ?_
  rintro _ w ⟨rfl, hm_⟩; refine ⟨_, rfl, ?_⟩; clear F; intro a F; have H := H.same hm_
  refine la F rfl (x_assign (F.t 104 rfl)) fun a F => ?_
  refine wn (hK32 _ _ ?_)
  refine sr fun _ hK33 => ?_
  refine la F rfl (x_move (F.t 7 rfl)) fun a F => ?_
  refine la F rfl (x_not (F.t 105 rfl)) fun a F => ?_
  refine wn (hK33 _ _ ?_)
  refine wp_cond_split (F.t 106 rfl) (fun hc106 => ?_) (fun hc106 => ?_)
  ·have hk106_10 := hc106; try simp only [bL] at hc106
   refine sr fun _ hK34 => ?_
   refine la F rfl (x_assign rfl) fun a F => ?_
   refine wn (hK34 _ _ ?_)
   refine wp_ret ?_
   try simp only [Exit.then, Exit.inBlock]
   have hz : rightM m = false := rightM_no4 (j := j) (by omega) (by omega) (by simpa using hc106)
   exact fin_ret F (res1 (v := .bool false) F rfl rfl) ⟨by rw [hz], H.mods⟩
  have hk106_11 := hc106; try simp only [bL] at hc106
  refine wp_skip ?_
  refine hK31 _ _ ?_
  refine wp_region_lit ?_
  refine la F rfl (x_move (F.t 6 rfl)) fun a F => ?_
  refine la F rfl (x_add (F.t 97 rfl) rfl (w64 (by omega) (by omega))) fun a F => ?_
  refine la F rfl (x_assign (F.t 98 rfl)) fun a F => ?_
  refine wpList_nil ?_
  exact ⟨_, by omega, ⟨j + 1, rfl, by omega, right_take (by omega) hq2_1 (by simpa using hc106), ((F.bare.add F 6 rfl).add F 1 rfl), H.sub _ (sub_cons (sub_cons (sub_cons (sub_nil _) 1 rfl) 901 rfl) 900 rfl)⟩⟩
 have hk96_12 := hc96; try simp only [bL] at hc96
 obtain rfl : j = m.changes.length := by omega
 rw [List.take_length] at hq2_1
 refine wp_exit ?_
 refine hK27 _ _ ?_
 refine sr fun _ hK35 => ?_
 refine la F rfl (x_assign rfl) fun a F => ?_
 refine wn (hK35 _ _ ?_)
 refine wp_ret ?_
 try simp only [Exit.then, Exit.inBlock]
 have hz : rightM m = true := rightM_yes ⟨by omega, by omega, by omega, by omega, by omega, by omega, by omega, by omega⟩ (by omega) (by first | simpa using hb82 | simpa using hc82 | simpa using hb86 | simpa using hc86 | simpa using hb91 | simpa using hc91 | simpa using hb96 | simpa using hc96) hq0_1 (by first | simpa using hb82 | simpa using hc82 | simpa using hb86 | simpa using hc86 | simpa using hb91 | simpa using hc91 | simpa using hb96 | simpa using hc96) (by omega) hq2_1
 exact fin_ret F (res1 (v := .bool true) F rfl rfl) ⟨by rw [hz], H.mods⟩
end Go.Proofs.YtiiklnghnifmjaaGreatDoor.Act
