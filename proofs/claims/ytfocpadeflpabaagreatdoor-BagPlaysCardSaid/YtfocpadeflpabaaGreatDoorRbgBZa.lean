/- The document's bag, walked. -/
import Derived.Test.YtfocpadeflpabaaGreatDoorRbgAZa
set_option linter.unusedVariables false
set_option maxRecDepth 100000
set_option maxHeartbeats 1000000
set_option linter.unusedSimpArgs false
namespace Go.Proofs.YtfocpadeflpabaaGreatDoor.Act
open Go.RowKit Go.Proofs.YtfocpadeflpabaaGreatDoor.Sx Go.Proofs.YtfocpadeflpabaaGreatDoor.Cod Go.Proofs.YtfocpadeflpabaaGreatDoor.Num
theorem ty26 : TyI Tryz.prog 26 (.slice none 0 0) 1 24 false := ⟨by kernel_rfl, _, Tryz.underlying26, rfl⟩
theorem ty29 : TyI Tryz.prog 29 (.agg #[.slice none 0 0, .int .i64 0, .int .i64 0, .int .i64 0, .int .i64 0, .int .i64 0, .int .i64 0, .int .i64 0, .int .i64 0, .int .i64 0]) 10 96 true := ⟨by kernel_rfl, _, Tryz.underlying29, rfl⟩
theorem ty48 : TyI Tryz.prog 48 (.agg #[.int .i64 0, .int .i64 0, .int .i64 0, .int .i64 0, .slice none 0 0, .slice none 0 0, .int .i64 0]) 7 88 true := ⟨by kernel_rfl, _, Tryz.underlying48, rfl⟩
theorem ris_calls (w0 : World) {X : Asn} {bl : Nat} {s : BagS} (hX : RBagA 29 bl s X) (hok : X.ok w0) (hs : BagOk s) (i : Int) : Calls Tryz.prog 28 #[.pointer (some ⟨bl, 0, none⟩), .int .i64 i] w0 fun e w' => e = .returned (.bool (isW s i)) ∧ Mods (fun _ => False) w0 w' := by
  obtain ⟨Al, cl, okl, rfl⟩ := hX
  refine cow Tryz.func28 rfl Tryz.ntmps28 (Nat.le_of_ble_eq_true rfl) fun a F => ?_
  have H := rbag_ro hok.holds
  have hll := (H.rd 2 rfl).le; unfold maxLen at hll
  have hfew := hs.few
  have hwl := rwy_len s.ways
  refine sr fun khK1 hK1 => ?_
  refine la F rfl (x_assign rfl) fun a F => ?_
  refine wn (hK1 _ _ ?_)
  refine sr fun khK2 hK2 => ?_
  refine la F rfl (x_move (F.t 1 rfl)) fun a F => ?_
  refine la F rfl (x_geq (F.t 5 rfl) rfl) fun a F => ?_
  refine la F rfl (x_move (F.t 6 rfl)) fun a F => ?_
  refine split_bool F 7 rfl (fun hb7 => ?_) (fun hb7 => ?_)
  · have hc7 := hb7; try simp only [bL] at hc7
    refine lgs F hb7 rfl (x_move (F.t 1 rfl)) fun a F => ?_
    refine lgs F hb7 rfl (x_move (F.t 0 rfl)) fun a F => ?_
    refine lgs F hb7 rfl (x_nil (F.t 9 rfl)) fun a F => ?_
    refine lgs F hb7 rfl (x_faddr Tryz.underlying29 rfl ty26 (by decide) (F.t 10 rfl) rfl) fun a F => ?_
    refine lgs F hb7 rfl (x_load1 ty26 (F.t 11 rfl) (blk_cell (H.atro 1 rfl) 0 rfl)) fun a F => ?_
    refine lgs F hb7 rfl (x_len_slice Tryz.underlying26 (F.t 12 rfl)) fun a F => ?_
    refine lgs F hb7 rfl (x_lss (F.t 8 rfl) (F.t 13 rfl)) fun a F => ?_
    refine la F rfl (x_pickT (F.t 7 rfl) hb7 (F.t 14 rfl)) fun a F => ?_
    refine la F rfl (x_assign (F.t 15 rfl)) fun a F => ?_
    refine wn (hK2 _ _ ?_)
    refine wp_ret ?_
    try simp only [Exit.then, Exit.inBlock]
    have hv : (decide (i < ((rwy s.ways).length : Int))) = isW s i := by unfold isW; rw [← hwl]; first | (simp [hc7]; done) | (simp [hc7]; omega)
    exact fin_ret F (res1 (v := .bool (decide (i < ((rwy s.ways).length : Int)))) F rfl rfl) ⟨by rw [hv], H.mods⟩
  · have hc7 := hb7; try simp only [bL] at hc7
    refine los F hb7 rfl fun a F => ?_
    refine los F hb7 rfl fun a F => ?_
    refine los F hb7 rfl fun a F => ?_
    refine los F hb7 rfl fun a F => ?_
    refine los F hb7 rfl fun a F => ?_
    refine los F hb7 rfl fun a F => ?_
    refine los F hb7 rfl fun a F => ?_
    refine la F rfl (x_pickF (F.t 7 rfl) hb7 rfl) fun a F => ?_
    refine la F rfl (x_assign (F.t 15 rfl)) fun a F => ?_
    refine wn (hK2 _ _ ?_)
    refine wp_ret ?_
    try simp only [Exit.then, Exit.inBlock]
    have hv : false = isW s i := by unfold isW; rw [← hwl]; first | (simp [hc7]; done) | (simp [hc7]; omega)
    exact fin_ret F (res1 (v := .bool false) F rfl rfl) ⟨by rw [hv], H.mods⟩
theorem rput_calls (w0 : World) {X : Asn} {bl : Nat} {s : BagS} (hX : RBagA 29 bl s X) (hok : X.ok w0) (hs : BagOk s) {p : RWayD} {okp0 : Nat → Prop} {Ap0 : Option Addr} {cp0 : Nat} (hrp0 : Rd (Rep.int .i64) w0 okp0 Ap0 p.m.nodes cp0) {okp1 : Nat → Prop} {Ap1 : Option Addr} {cp1 : Nat} (hrp1 : Rd ChgE w0 okp1 Ap1 p.m.changes cp1) (hinp0 : ∀ k, okp0 k → k < w0.heap.size) (happ0 : ∀ k, okp0 k → ¬ X.own k) (hinp1 : ∀ k, okp1 k → k < w0.heap.size) (happ1 : ∀ k, okp1 k → ¬ X.own k) : Calls Tryz.prog 26 #[.pointer (some ⟨bl, 0, none⟩), .agg #[.int .i64 p.m.kind, .int .i64 p.m.src, .int .i64 p.m.dst, .int .i64 p.m.tx, .slice Ap0 p.m.nodes.length cp0, .slice Ap1 p.m.changes.length cp1, .int .i64 p.epoch]] w0 fun e w' => ∃ X', e = .returned (.int .i64 (putE s)) ∧ RBagA 29 bl (putS s p.tup) X' ∧ Grew (fun _ => False) (fun kb => okp0 kb ∨ okp1 kb) X w0 w' X' := by
  obtain ⟨Al, cl, okl, rfl⟩ := hX
  refine cow Tryz.func26 rfl Tryz.ntmps26 (Nat.le_of_ble_eq_true rfl) fun a F => ?_
  have H := Hp.ofAll hok.holds
  have hll := (H.rd 2 rfl).le; unfold maxLen at hll
  have hfew := hs.few
  have hwl := rwy_len s.ways
  have H := H.readable 910 hrp0 hinp0 (fun j Y hY k hk hk2 => happ0 k hk2 ⟨j, Y, hY, hk⟩)
  have hlep0 := hrp0.le; unfold maxLen at hlep0
  have H := H.readable 911 hrp1 hinp1 (fun j Y hY k hk hk2 => by rcases Sx.get_one hY with ⟨_, rfl⟩ | ⟨_, hY⟩; exact hk; exact happ1 k hk2 ⟨j, Y, hY, hk⟩)
  have hlep1 := hrp1.le; unfold maxLen at hlep1
  refine sr fun khK1 hK1 => ?_
  refine lp rfl ?_
  refine w_box 3 F H rfl (F.t 1 rfl) ?_
  clear F H; intro a w b3 F H
  refine la F rfl (x_assign rfl) fun a F => ?_
  refine wn (hK1 _ _ ?_)
  refine wp_seq_k fun khK2 hK2 => ?_
  refine sr fun khK3 hK3 => ?_
  refine la F rfl (x_move (F.t 0 rfl)) fun a F => ?_
  refine la F rfl (x_nil (F.t 5 rfl)) fun a F => ?_
  refine la F rfl (x_faddr Tryz.underlying29 rfl ty26 (by decide) (F.t 6 rfl) rfl) fun a F => ?_
  refine la F rfl (x_load1 ty26 (F.t 7 rfl) (blk_cell (H.at 1 rfl) 0 rfl)) fun a F => ?_
  refine la F rfl (x_len_slice Tryz.underlying26 (F.t 8 rfl)) fun a F => ?_
  refine la F rfl (x_geq (F.t 9 rfl) rfl) fun a F => ?_
  refine wn (hK3 _ _ ?_)
  refine wp_cond_split (F.t 10 rfl) (fun hc10 => ?_) (fun hc10 => ?_)
  · have hk10_1 := hc10; try simp only [bL] at hc10
    have hcf : (500 : Int) ≤ (s.ways.length : Int) := by omega
    refine sr fun khK4 hK4 => ?_
    refine la F rfl (x_move (F.t 0 rfl)) fun a F => ?_
    refine la F rfl (x_nil (F.t 11 rfl)) fun a F => ?_
    refine la F rfl (x_faddr Tryz.underlying29 rfl ty3 (by decide) (F.t 12 rfl) rfl) fun a F => ?_
    refine la F rfl (x_load1 ty3 (F.t 13 rfl) (blk_cell (H.at 1 rfl) 9 rfl)) fun a F => ?_
    refine la F rfl (x_add (F.t 14 rfl) rfl rfl) fun a F => ?_
    refine la F rfl (x_nil (F.t 11 rfl)) fun a F => ?_
    refine la F rfl (x_faddr Tryz.underlying29 rfl ty3 (by decide) (F.t 16 rfl) rfl) fun a F => ?_
    refine lp rfl ?_
    refine w_store 1 H ty3 rfl (F.t 17 rfl) (F.t 15 rfl) rfl (one1 rfl rfl) (by first | decide | exact Nat.le_of_ble_eq_true rfl) ?_
    clear H; intro w H
    refine wn (hK4 _ _ ?_)
    refine sr fun khK5 hK5 => ?_
    refine la F rfl (x_assign rfl) fun a F => ?_
    refine wn (hK5 _ _ ?_)
    refine wp_ret ?_
    try simp only [Exit.then, Exit.inBlock]
    exact fin_ret F (res1 F rfl rfl) ⟨Asn.all [(1, .blk bl (.cells #[.slice Al (rwy s.ways).length cl, .int .i64 (gi s.eps 0), .int .i64 (gi s.eps 1), .int .i64 (gi s.eps 2), .int .i64 (gi s.eps 3), .int .i64 (gi s.eps 4), .int .i64 (gi s.eps 5), .int .i64 (gi s.eps 6), .int .i64 (gi s.eps 7), .int .i64 (w64I (s.lost + 1))] 29 (0, 0))), (2, .rd_ RwayE Al (rwy s.ways) cl okl)], by rw [(put_full (p := p.tup) hcf).1] <;> rfl, by rw [(put_full (p := p.tup) hcf).2]; exact ⟨_, _, _, rfl⟩, grew_of (H.sub [(1, .blk bl (.cells #[.slice Al (rwy s.ways).length cl, .int .i64 (gi s.eps 0), .int .i64 (gi s.eps 1), .int .i64 (gi s.eps 2), .int .i64 (gi s.eps 3), .int .i64 (gi s.eps 4), .int .i64 (gi s.eps 5), .int .i64 (gi s.eps 6), .int .i64 (gi s.eps 7), .int .i64 (w64I (s.lost + 1))] 29 (0, 0))), (2, .rd_ RwayE Al (rwy s.ways) cl okl)] (sub_cons (sub_cons (sub_nil _) 2 rfl) 1 rfl)) (rdin_cons (fun k h => h.elim) (rdin_cons (fun k h => .inr (.inl ⟨2, _, rfl, h⟩)) rdin_nil))⟩
  · have hk10_2 := hc10; try simp only [bL] at hc10
    have hcf : ¬ (500 : Int) ≤ (s.ways.length : Int) := by omega
    refine wp_skip ?_
    refine hK2 _ _ ?_
    refine wp_seq_k fun khK6 hK6 => ?_
    have hJr4 : ∀ a w, ∀ A27 : Option Addr, ∀ b26 : Nat, ∀ c27 : Nat, ((OwnL [(1, .blk bl (.cells #[.slice Al (rwy s.ways).length cl, .int .i64 (gi s.eps 0), .int .i64 (gi s.eps 1), .int .i64 (gi s.eps 2), .int .i64 (gi s.eps 3), .int .i64 (gi s.eps 4), .int .i64 (gi s.eps 5), .int .i64 (gi s.eps 6), .int .i64 (gi s.eps 7), .int .i64 s.lost] 29 (0, 0))), (2, .rd_ RwayE Al (rwy s.ways) cl okl)]) b26 ∨ w0.heap.size ≤ b26) → Fr 30 a [] → Hp (OwnL [(1, .blk bl (.cells #[.slice Al (rwy s.ways).length cl, .int .i64 (gi s.eps 0), .int .i64 (gi s.eps 1), .int .i64 (gi s.eps 2), .int .i64 (gi s.eps 3), .int .i64 (gi s.eps 4), .int .i64 (gi s.eps 5), .int .i64 (gi s.eps 6), .int .i64 (gi s.eps 7), .int .i64 s.lost] 29 (0, 0))), (2, .rd_ RwayE Al (rwy s.ways) cl okl)]) w0 w [(1, .blk bl (.cells #[.slice A27 (([] ++ (rwy s.ways)) ++ [p]).length c27, .int .i64 (gi s.eps 0), .int .i64 (gi s.eps 1), .int .i64 (gi s.eps 2), .int .i64 (gi s.eps 3), .int .i64 (gi s.eps 4), .int .i64 (gi s.eps 5), .int .i64 (gi s.eps 6), .int .i64 (gi s.eps 7), .int .i64 s.lost] 29 (0, 0))), (2, .rd_ RwayE Al (rwy s.ways) cl okl), (910, .rd_ (.int .i64) Ap0 p.m.nodes cp0 okp0), (911, .rd_ ChgE Ap1 p.m.changes cp1 okp1), (3, .blk b3 (.cells #[.int .i64 p.m.kind, .int .i64 p.m.src, .int .i64 p.m.dst, .int .i64 p.m.tx, .slice Ap0 p.m.nodes.length cp0, .slice Ap1 p.m.changes.length cp1, .int .i64 p.epoch] 48 (0, 0))), (19, .row RwayE 48 (.slice A27 (([] ++ (rwy s.ways)) ++ [p]).length c27) (([] ++ (rwy s.ways)) ++ [p]) (fun kb => (fun kb => (fun _ => False) kb ∨ okl kb) kb ∨ (fun kb => (fun kb => okp0 kb ∨ okp1 kb) kb ∨ kb = b26) kb)), (26, .rd_ RwayE (some ⟨b26, 0, none⟩) [p] 1 (fun kb => (fun kb => okp0 kb ∨ okp1 kb) kb ∨ kb = b26))] → khK6 a w := by
      intro a w A27 b26 c27 hjr4_0 F H
      refine hK6 a w ?_
      refine sr fun khK7 hK7 => ?_
      refine la F rfl (x_assign rfl) fun a F => ?_
      refine wn (hK7 _ _ ?_)
      refine wp_ret ?_
      try simp only [Exit.then, Exit.inBlock]
      have hxl : (([] ++ (rwy s.ways)) ++ [p]) = (rwy (s.ways ++ [p.tup])) := by rw [List.nil_append]; exact rwy_put s.ways p.tup
      rw [hxl] at H
      have hfrn : ∀ kb, (Value.slice A27 (rwy (s.ways ++ [p.tup])).length c27).ownBlock = some kb → (OwnL [(1, .blk bl (.cells #[.slice Al (rwy s.ways).length cl, .int .i64 (gi s.eps 0), .int .i64 (gi s.eps 1), .int .i64 (gi s.eps 2), .int .i64 (gi s.eps 3), .int .i64 (gi s.eps 4), .int .i64 (gi s.eps 5), .int .i64 (gi s.eps 6), .int .i64 (gi s.eps 7), .int .i64 s.lost] 29 (0, 0))), (2, .rd_ RwayE Al (rwy s.ways) cl okl)]) kb ∨ w0.heap.size ≤ kb := fun kb h => H.mine 19 _ rfl kb h
      have H := H.freeze 19 rfl (fun kb => (fun kb => (fun kb => (fun _ => False) kb ∨ okl kb) kb ∨ (fun kb => (fun kb => okp0 kb ∨ okp1 kb) kb ∨ kb = b26) kb) kb ∨ (Value.slice A27 (rwy (s.ways ++ [p.tup])).length c27).ownBlock = some kb) (fun kb => Iff.rfl)
      have H := H.subrd 19 rfl 2 (H.rd 19 rfl) (fun _ h => h)
      exact fin_ret F (res1 F rfl rfl) ⟨Asn.all [(1, .blk bl (.cells #[.slice A27 (rwy (s.ways ++ [p.tup])).length c27, .int .i64 (gi s.eps 0), .int .i64 (gi s.eps 1), .int .i64 (gi s.eps 2), .int .i64 (gi s.eps 3), .int .i64 (gi s.eps 4), .int .i64 (gi s.eps 5), .int .i64 (gi s.eps 6), .int .i64 (gi s.eps 7), .int .i64 s.lost] 29 (0, 0))), (2, .rd_ RwayE A27 (rwy (s.ways ++ [p.tup])) c27 (fun kb => (fun kb => (fun kb => (fun _ => False) kb ∨ okl kb) kb ∨ (fun kb => (fun kb => okp0 kb ∨ okp1 kb) kb ∨ kb = b26) kb) kb ∨ (Value.slice A27 (rwy (s.ways ++ [p.tup])).length c27).ownBlock = some kb))], by rw [(put_room (p := p.tup) hcf).1] <;> rfl, by rw [(put_room (p := p.tup) hcf).2]; exact ⟨_, _, _, rfl⟩, grew_of (H.sub [(1, .blk bl (.cells #[.slice A27 (rwy (s.ways ++ [p.tup])).length c27, .int .i64 (gi s.eps 0), .int .i64 (gi s.eps 1), .int .i64 (gi s.eps 2), .int .i64 (gi s.eps 3), .int .i64 (gi s.eps 4), .int .i64 (gi s.eps 5), .int .i64 (gi s.eps 6), .int .i64 (gi s.eps 7), .int .i64 s.lost] 29 (0, 0))), (2, .rd_ RwayE A27 (rwy (s.ways ++ [p.tup])) c27 (fun kb => (fun kb => (fun kb => (fun _ => False) kb ∨ okl kb) kb ∨ (fun kb => (fun kb => okp0 kb ∨ okp1 kb) kb ∨ kb = b26) kb) kb ∨ (Value.slice A27 (rwy (s.ways ++ [p.tup])).length c27).ownBlock = some kb))] (sub_cons (sub_cons (sub_nil _) 2 rfl) 1 rfl)) (rdin_cons (fun k h => h.elim) (rdin_cons (fun k h => Or.elim h (fun h => by rcases h with (h | h) | (h | h) | h; exact h.elim; exact .inr (.inl ⟨2, _, rfl, h⟩); exact .inr (.inr (.inl (.inl h))); exact .inr (.inr (.inl (.inr h))); subst h; exact hjr4_0.elim .inl (fun q => .inr (.inr (.inr q)))) (fun h => (hfrn k h).elim .inl (fun q => .inr (.inr (.inr q))))) rdin_nil))⟩
    refine r_start [(3, .blk b3 (.cells #[.int .i64 p.m.kind, .int .i64 p.m.src, .int .i64 p.m.dst, .int .i64 p.m.tx, .slice Ap0 p.m.nodes.length cp0, .slice Ap1 p.m.changes.length cp1, .int .i64 p.epoch] 48 (0, 0)))] (by kernel_rfl) H fun H => ?_
    have hS : SL [(3, .blk b3 (.cells #[.int .i64 p.m.kind, .int .i64 p.m.src, .int .i64 p.m.dst, .int .i64 p.m.tx, .slice Ap0 p.m.nodes.length cp0, .slice Ap1 p.m.changes.length cp1, .int .i64 p.epoch] 48 (0, 0)))] _ := SL.of H (sub_cons (sub_nil _) 3 rfl)
    refine rT 0 F rfl (by kernel_rfl) pq rfl hS (fun w hS => x_move (F.t 0 rfl)) rfl fun a F => ?_
    refine rT 2 F rfl (by kernel_rfl) pq rfl hS (fun w hS => x_move (F.t 0 rfl)) rfl fun a F => ?_
    refine rT 3 F rfl (by kernel_rfl) pq rfl hS (fun w hS => x_nil (F.t 20 rfl)) rfl fun a F => ?_
    refine rT 4 F rfl (by kernel_rfl) pq rfl hS (fun w hS => x_faddr Tryz.underlying29 rfl ty26 (by decide) (F.t 21 rfl) rfl) rfl fun a F => ?_
    refine rT 7 F rfl (by kernel_rfl) pq rfl hS (fun w hS => x_loadn ty48 (F.t 3 rfl) rfl (blk_whole (SL.at_ hS 3 rfl))) rfl fun a F => ?_
    refine r_do3 1 5 8 rfl rfl rfl (by kernel_rfl) rfl rfl rfl rfl rfl rfl ?_ ?_ ?_
    ·
      refine w_lit0 RwayE 19 F H rfl Tryz.underlying26 ty48 ?_
      clear F H; intro a w b19 F H
      refine aN (SL.of H (sub_cons (sub_nil _) 3 rfl)) fun hS => ?_
      refine r_do2 5 8 rfl rfl (by kernel_rfl) rfl rfl rfl rfl ?_ ?_
      ·
        refine w_at F (x_load1 ty26 (F.t 22 rfl) (blk_cell (H.at 1 rfl) 0 rfl)) rfl rfl ?_
        clear F; intro a F
        refine aN (SL.of H (sub_cons (sub_nil _) 3 rfl)) fun hS => ?_
        refine r_do2 6 8 rfl rfl (by kernel_rfl) rfl rfl rfl rfl ?_ ?_
        ·
          refine w_append 19 2 (xs := ([])) (ys := (rwy s.ways)) F H rfl Tryz.underlying26 ty48 rfl rfl rfl rfl ((H.rd 2 rfl)) (by intro k_ hk_; exact .inr hk_) (F.t 19 rfl) (F.t 23 rfl) (by simp only [List.length_nil, List.length_append, List.length_cons, List.length_take, List.length_drop]; omega) (by simp only [List.length_nil, List.length_append, List.length_cons, List.length_take, List.length_drop, maxLen]; omega) (fun kb => (fun _ => False) kb ∨ okl kb) (fun w' v' h => h) (by rintro k_ (hk_ | hk_); exact .inl hk_; exact .inr hk_) ?_
          clear F H; intro a w v24 F H
          refine aN (SL.of H (sub_cons (sub_nil _) 3 rfl)) fun hS => ?_
          refine r_do 8 rfl (by kernel_rfl) rfl rfl ?_
          refine w_lit1 26 RwayE p #[.int .i64 p.m.kind, .int .i64 p.m.src, .int .i64 p.m.dst, .int .i64 p.m.tx, .slice Ap0 p.m.nodes.length cp0, .slice Ap1 p.m.changes.length cp1, .int .i64 p.epoch] (fun kb => okp0 kb ∨ okp1 kb) F H rfl Tryz.underlying26 ty48 (by simp only [bM, F.t 25 rfl] <;> rfl) (by decide) (by kernel_rfl) (rway_mk p ((H.rd 910 rfl).move (fun _ _ _ => rfl) (fun _ h _ => .inl h)) ((H.rd 911 rfl).move (fun _ _ _ => rfl) (fun _ h _ => .inr h))) (fun kb hk => hk.elim (fun h => ⟨910, _, rfl, h⟩) (fun h => ⟨911, _, rfl, h⟩)) ?_
          clear F H; intro a w b26 F hb26_ H
          refine aN (SL.of H (sub_cons (sub_nil _) 3 rfl)) fun hS => ?_
          refine r_do 9 rfl (by kernel_rfl) rfl rfl ?_
          refine w_append 19 26 (xs := ([] ++ (rwy s.ways))) (ys := ([p])) F H rfl Tryz.underlying26 ty48 rfl rfl rfl rfl ((H.rd 26 rfl)) (by intro k_ hk_; exact .inr hk_) (F.t 24 rfl) (F.t 26 rfl) (by simp only [List.length_nil, List.length_append, List.length_cons, List.length_take, List.length_drop]; omega) (by simp only [List.length_nil, List.length_append, List.length_cons, List.length_take, List.length_drop, maxLen]; omega) (fun kb => (fun kb => (fun _ => False) kb ∨ okl kb) kb ∨ (fun kb => (fun kb => okp0 kb ∨ okp1 kb) kb ∨ kb = b26) kb) (fun w' v' h => h) (by rintro k_ (hk_ | hk_); exact .inl hk_; exact .inr hk_) ?_
          clear F H; intro a w v27 F H
          refine aN (SL.of H (sub_cons (sub_nil _) 3 rfl)) fun hS => ?_
          obtain ⟨A27, c27, rfl⟩ := (H.row 19 rfl).form
          refine rT 10 F rfl (by kernel_rfl) pq rfl hS (fun w hS => x_nil (F.t 18 rfl)) rfl fun a F => ?_
          refine rT 11 F rfl (by kernel_rfl) pq rfl hS (fun w hS => x_faddr Tryz.underlying29 rfl ty26 (by decide) (F.t 28 rfl) rfl) rfl fun a F => ?_
          refine r_do 12 rfl (by kernel_rfl) rfl rfl ?_
          refine w_store 1 H ty26 rfl (F.t 29 rfl) (F.t 27 rfl) rfl (one1 rfl rfl) (by first | decide | exact Nat.le_of_ble_eq_true rfl) ?_
          clear H; intro w H
          refine aN (SL.of H (sub_cons (sub_nil _) 3 rfl)) fun hS => ?_
          refine r_end (by kernel_rfl) ?_; clear hS
          exact hJr4 _ _ _ _ _ hb26_ F.bare (H.sub _ (sub_cons (sub_cons (sub_cons (sub_cons (sub_cons (sub_cons (sub_cons (sub_nil _) 26 rfl) 19 rfl) 3 rfl) 911 rfl) 910 rfl) 2 rfl) 1 rfl))
        ·
          refine w_lit1 26 RwayE p #[.int .i64 p.m.kind, .int .i64 p.m.src, .int .i64 p.m.dst, .int .i64 p.m.tx, .slice Ap0 p.m.nodes.length cp0, .slice Ap1 p.m.changes.length cp1, .int .i64 p.epoch] (fun kb => okp0 kb ∨ okp1 kb) F H rfl Tryz.underlying26 ty48 (by simp only [bM, F.t 25 rfl] <;> rfl) (by decide) (by kernel_rfl) (rway_mk p ((H.rd 910 rfl).move (fun _ _ _ => rfl) (fun _ h _ => .inl h)) ((H.rd 911 rfl).move (fun _ _ _ => rfl) (fun _ h _ => .inr h))) (fun kb hk => hk.elim (fun h => ⟨910, _, rfl, h⟩) (fun h => ⟨911, _, rfl, h⟩)) ?_
          clear F H; intro a w b26 F hb26_ H
          refine aN (SL.of H (sub_cons (sub_nil _) 3 rfl)) fun hS => ?_
          refine r_do 6 rfl (by kernel_rfl) rfl rfl ?_
          refine w_append 19 2 (xs := ([])) (ys := (rwy s.ways)) F H rfl Tryz.underlying26 ty48 rfl rfl rfl rfl ((H.rd 2 rfl)) (by intro k_ hk_; exact .inr hk_) (F.t 19 rfl) (F.t 23 rfl) (by simp only [List.length_nil, List.length_append, List.length_cons, List.length_take, List.length_drop]; omega) (by simp only [List.length_nil, List.length_append, List.length_cons, List.length_take, List.length_drop, maxLen]; omega) (fun kb => (fun _ => False) kb ∨ okl kb) (fun w' v' h => h) (by rintro k_ (hk_ | hk_); exact .inl hk_; exact .inr hk_) ?_
          clear F H; intro a w v24 F H
          refine aN (SL.of H (sub_cons (sub_nil _) 3 rfl)) fun hS => ?_
          refine r_do 9 rfl (by kernel_rfl) rfl rfl ?_
          refine w_append 19 26 (xs := ([] ++ (rwy s.ways))) (ys := ([p])) F H rfl Tryz.underlying26 ty48 rfl rfl rfl rfl ((H.rd 26 rfl)) (by intro k_ hk_; exact .inr hk_) (F.t 24 rfl) (F.t 26 rfl) (by simp only [List.length_nil, List.length_append, List.length_cons, List.length_take, List.length_drop]; omega) (by simp only [List.length_nil, List.length_append, List.length_cons, List.length_take, List.length_drop, maxLen]; omega) (fun kb => (fun kb => (fun _ => False) kb ∨ okl kb) kb ∨ (fun kb => (fun kb => okp0 kb ∨ okp1 kb) kb ∨ kb = b26) kb) (fun w' v' h => h) (by rintro k_ (hk_ | hk_); exact .inl hk_; exact .inr hk_) ?_
          clear F H; intro a w v27 F H
          refine aN (SL.of H (sub_cons (sub_nil _) 3 rfl)) fun hS => ?_
          obtain ⟨A27, c27, rfl⟩ := (H.row 19 rfl).form
          refine rT 10 F rfl (by kernel_rfl) pq rfl hS (fun w hS => x_nil (F.t 18 rfl)) rfl fun a F => ?_
          refine rT 11 F rfl (by kernel_rfl) pq rfl hS (fun w hS => x_faddr Tryz.underlying29 rfl ty26 (by decide) (F.t 28 rfl) rfl) rfl fun a F => ?_
          refine r_do 12 rfl (by kernel_rfl) rfl rfl ?_
          refine w_store 1 H ty26 rfl (F.t 29 rfl) (F.t 27 rfl) rfl (one1 rfl rfl) (by first | decide | exact Nat.le_of_ble_eq_true rfl) ?_
          clear H; intro w H
          refine aN (SL.of H (sub_cons (sub_nil _) 3 rfl)) fun hS => ?_
          refine r_end (by kernel_rfl) ?_; clear hS
          exact hJr4 _ _ _ _ _ hb26_ F.bare (H.sub _ (sub_cons (sub_cons (sub_cons (sub_cons (sub_cons (sub_cons (sub_cons (sub_nil _) 26 rfl) 19 rfl) 3 rfl) 911 rfl) 910 rfl) 2 rfl) 1 rfl))
      ·
        refine w_lit1 26 RwayE p #[.int .i64 p.m.kind, .int .i64 p.m.src, .int .i64 p.m.dst, .int .i64 p.m.tx, .slice Ap0 p.m.nodes.length cp0, .slice Ap1 p.m.changes.length cp1, .int .i64 p.epoch] (fun kb => okp0 kb ∨ okp1 kb) F H rfl Tryz.underlying26 ty48 (by simp only [bM, F.t 25 rfl] <;> rfl) (by decide) (by kernel_rfl) (rway_mk p ((H.rd 910 rfl).move (fun _ _ _ => rfl) (fun _ h _ => .inl h)) ((H.rd 911 rfl).move (fun _ _ _ => rfl) (fun _ h _ => .inr h))) (fun kb hk => hk.elim (fun h => ⟨910, _, rfl, h⟩) (fun h => ⟨911, _, rfl, h⟩)) ?_
        clear F H; intro a w b26 F hb26_ H
        refine aN (SL.of H (sub_cons (sub_nil _) 3 rfl)) fun hS => ?_
        refine r_do 5 rfl (by kernel_rfl) rfl rfl ?_
        refine w_at F (x_load1 ty26 (F.t 22 rfl) (blk_cell (H.at 1 rfl) 0 rfl)) rfl rfl ?_
        clear F; intro a F
        refine aN (SL.of H (sub_cons (sub_nil _) 3 rfl)) fun hS => ?_
        refine r_do 6 rfl (by kernel_rfl) rfl rfl ?_
        refine w_append 19 2 (xs := ([])) (ys := (rwy s.ways)) F H rfl Tryz.underlying26 ty48 rfl rfl rfl rfl ((H.rd 2 rfl)) (by intro k_ hk_; exact .inr hk_) (F.t 19 rfl) (F.t 23 rfl) (by simp only [List.length_nil, List.length_append, List.length_cons, List.length_take, List.length_drop]; omega) (by simp only [List.length_nil, List.length_append, List.length_cons, List.length_take, List.length_drop, maxLen]; omega) (fun kb => (fun _ => False) kb ∨ okl kb) (fun w' v' h => h) (by rintro k_ (hk_ | hk_); exact .inl hk_; exact .inr hk_) ?_
        clear F H; intro a w v24 F H
        refine aN (SL.of H (sub_cons (sub_nil _) 3 rfl)) fun hS => ?_
        refine r_do 9 rfl (by kernel_rfl) rfl rfl ?_
        refine w_append 19 26 (xs := ([] ++ (rwy s.ways))) (ys := ([p])) F H rfl Tryz.underlying26 ty48 rfl rfl rfl rfl ((H.rd 26 rfl)) (by intro k_ hk_; exact .inr hk_) (F.t 24 rfl) (F.t 26 rfl) (by simp only [List.length_nil, List.length_append, List.length_cons, List.length_take, List.length_drop]; omega) (by simp only [List.length_nil, List.length_append, List.length_cons, List.length_take, List.length_drop, maxLen]; omega) (fun kb => (fun kb => (fun _ => False) kb ∨ okl kb) kb ∨ (fun kb => (fun kb => okp0 kb ∨ okp1 kb) kb ∨ kb = b26) kb) (fun w' v' h => h) (by rintro k_ (hk_ | hk_); exact .inl hk_; exact .inr hk_) ?_
        clear F H; intro a w v27 F H
        refine aN (SL.of H (sub_cons (sub_nil _) 3 rfl)) fun hS => ?_
        obtain ⟨A27, c27, rfl⟩ := (H.row 19 rfl).form
        refine rT 10 F rfl (by kernel_rfl) pq rfl hS (fun w hS => x_nil (F.t 18 rfl)) rfl fun a F => ?_
        refine rT 11 F rfl (by kernel_rfl) pq rfl hS (fun w hS => x_faddr Tryz.underlying29 rfl ty26 (by decide) (F.t 28 rfl) rfl) rfl fun a F => ?_
        refine r_do 12 rfl (by kernel_rfl) rfl rfl ?_
        refine w_store 1 H ty26 rfl (F.t 29 rfl) (F.t 27 rfl) rfl (one1 rfl rfl) (by first | decide | exact Nat.le_of_ble_eq_true rfl) ?_
        clear H; intro w H
        refine aN (SL.of H (sub_cons (sub_nil _) 3 rfl)) fun hS => ?_
        refine r_end (by kernel_rfl) ?_; clear hS
        exact hJr4 _ _ _ _ _ hb26_ F.bare (H.sub _ (sub_cons (sub_cons (sub_cons (sub_cons (sub_cons (sub_cons (sub_cons (sub_nil _) 26 rfl) 19 rfl) 3 rfl) 911 rfl) 910 rfl) 2 rfl) 1 rfl))
    ·
      refine w_at F (x_load1 ty26 (F.t 22 rfl) (blk_cell (H.at 1 rfl) 0 rfl)) rfl rfl ?_
      clear F; intro a F
      refine aN (SL.of H (sub_cons (sub_nil _) 3 rfl)) fun hS => ?_
      refine r_do2 1 8 rfl rfl (by kernel_rfl) rfl rfl rfl rfl ?_ ?_
      ·
        refine w_lit0 RwayE 19 F H rfl Tryz.underlying26 ty48 ?_
        clear F H; intro a w b19 F H
        refine aN (SL.of H (sub_cons (sub_nil _) 3 rfl)) fun hS => ?_
        refine r_do2 6 8 rfl rfl (by kernel_rfl) rfl rfl rfl rfl ?_ ?_
        ·
          refine w_append 19 2 (xs := ([])) (ys := (rwy s.ways)) F H rfl Tryz.underlying26 ty48 rfl rfl rfl rfl ((H.rd 2 rfl)) (by intro k_ hk_; exact .inr hk_) (F.t 19 rfl) (F.t 23 rfl) (by simp only [List.length_nil, List.length_append, List.length_cons, List.length_take, List.length_drop]; omega) (by simp only [List.length_nil, List.length_append, List.length_cons, List.length_take, List.length_drop, maxLen]; omega) (fun kb => (fun _ => False) kb ∨ okl kb) (fun w' v' h => h) (by rintro k_ (hk_ | hk_); exact .inl hk_; exact .inr hk_) ?_
          clear F H; intro a w v24 F H
          refine aN (SL.of H (sub_cons (sub_nil _) 3 rfl)) fun hS => ?_
          refine r_do 8 rfl (by kernel_rfl) rfl rfl ?_
          refine w_lit1 26 RwayE p #[.int .i64 p.m.kind, .int .i64 p.m.src, .int .i64 p.m.dst, .int .i64 p.m.tx, .slice Ap0 p.m.nodes.length cp0, .slice Ap1 p.m.changes.length cp1, .int .i64 p.epoch] (fun kb => okp0 kb ∨ okp1 kb) F H rfl Tryz.underlying26 ty48 (by simp only [bM, F.t 25 rfl] <;> rfl) (by decide) (by kernel_rfl) (rway_mk p ((H.rd 910 rfl).move (fun _ _ _ => rfl) (fun _ h _ => .inl h)) ((H.rd 911 rfl).move (fun _ _ _ => rfl) (fun _ h _ => .inr h))) (fun kb hk => hk.elim (fun h => ⟨910, _, rfl, h⟩) (fun h => ⟨911, _, rfl, h⟩)) ?_
          clear F H; intro a w b26 F hb26_ H
          refine aN (SL.of H (sub_cons (sub_nil _) 3 rfl)) fun hS => ?_
          refine r_do 9 rfl (by kernel_rfl) rfl rfl ?_
          refine w_append 19 26 (xs := ([] ++ (rwy s.ways))) (ys := ([p])) F H rfl Tryz.underlying26 ty48 rfl rfl rfl rfl ((H.rd 26 rfl)) (by intro k_ hk_; exact .inr hk_) (F.t 24 rfl) (F.t 26 rfl) (by simp only [List.length_nil, List.length_append, List.length_cons, List.length_take, List.length_drop]; omega) (by simp only [List.length_nil, List.length_append, List.length_cons, List.length_take, List.length_drop, maxLen]; omega) (fun kb => (fun kb => (fun _ => False) kb ∨ okl kb) kb ∨ (fun kb => (fun kb => okp0 kb ∨ okp1 kb) kb ∨ kb = b26) kb) (fun w' v' h => h) (by rintro k_ (hk_ | hk_); exact .inl hk_; exact .inr hk_) ?_
          clear F H; intro a w v27 F H
          refine aN (SL.of H (sub_cons (sub_nil _) 3 rfl)) fun hS => ?_
          obtain ⟨A27, c27, rfl⟩ := (H.row 19 rfl).form
          refine rT 10 F rfl (by kernel_rfl) pq rfl hS (fun w hS => x_nil (F.t 18 rfl)) rfl fun a F => ?_
          refine rT 11 F rfl (by kernel_rfl) pq rfl hS (fun w hS => x_faddr Tryz.underlying29 rfl ty26 (by decide) (F.t 28 rfl) rfl) rfl fun a F => ?_
          refine r_do 12 rfl (by kernel_rfl) rfl rfl ?_
          refine w_store 1 H ty26 rfl (F.t 29 rfl) (F.t 27 rfl) rfl (one1 rfl rfl) (by first | decide | exact Nat.le_of_ble_eq_true rfl) ?_
          clear H; intro w H
          refine aN (SL.of H (sub_cons (sub_nil _) 3 rfl)) fun hS => ?_
          refine r_end (by kernel_rfl) ?_; clear hS
          exact hJr4 _ _ _ _ _ hb26_ F.bare (H.sub _ (sub_cons (sub_cons (sub_cons (sub_cons (sub_cons (sub_cons (sub_cons (sub_nil _) 26 rfl) 19 rfl) 3 rfl) 911 rfl) 910 rfl) 2 rfl) 1 rfl))
        ·
          refine w_lit1 26 RwayE p #[.int .i64 p.m.kind, .int .i64 p.m.src, .int .i64 p.m.dst, .int .i64 p.m.tx, .slice Ap0 p.m.nodes.length cp0, .slice Ap1 p.m.changes.length cp1, .int .i64 p.epoch] (fun kb => okp0 kb ∨ okp1 kb) F H rfl Tryz.underlying26 ty48 (by simp only [bM, F.t 25 rfl] <;> rfl) (by decide) (by kernel_rfl) (rway_mk p ((H.rd 910 rfl).move (fun _ _ _ => rfl) (fun _ h _ => .inl h)) ((H.rd 911 rfl).move (fun _ _ _ => rfl) (fun _ h _ => .inr h))) (fun kb hk => hk.elim (fun h => ⟨910, _, rfl, h⟩) (fun h => ⟨911, _, rfl, h⟩)) ?_
          clear F H; intro a w b26 F hb26_ H
          refine aN (SL.of H (sub_cons (sub_nil _) 3 rfl)) fun hS => ?_
          refine r_do 6 rfl (by kernel_rfl) rfl rfl ?_
          refine w_append 19 2 (xs := ([])) (ys := (rwy s.ways)) F H rfl Tryz.underlying26 ty48 rfl rfl rfl rfl ((H.rd 2 rfl)) (by intro k_ hk_; exact .inr hk_) (F.t 19 rfl) (F.t 23 rfl) (by simp only [List.length_nil, List.length_append, List.length_cons, List.length_take, List.length_drop]; omega) (by simp only [List.length_nil, List.length_append, List.length_cons, List.length_take, List.length_drop, maxLen]; omega) (fun kb => (fun _ => False) kb ∨ okl kb) (fun w' v' h => h) (by rintro k_ (hk_ | hk_); exact .inl hk_; exact .inr hk_) ?_
          clear F H; intro a w v24 F H
          refine aN (SL.of H (sub_cons (sub_nil _) 3 rfl)) fun hS => ?_
          refine r_do 9 rfl (by kernel_rfl) rfl rfl ?_
          refine w_append 19 26 (xs := ([] ++ (rwy s.ways))) (ys := ([p])) F H rfl Tryz.underlying26 ty48 rfl rfl rfl rfl ((H.rd 26 rfl)) (by intro k_ hk_; exact .inr hk_) (F.t 24 rfl) (F.t 26 rfl) (by simp only [List.length_nil, List.length_append, List.length_cons, List.length_take, List.length_drop]; omega) (by simp only [List.length_nil, List.length_append, List.length_cons, List.length_take, List.length_drop, maxLen]; omega) (fun kb => (fun kb => (fun _ => False) kb ∨ okl kb) kb ∨ (fun kb => (fun kb => okp0 kb ∨ okp1 kb) kb ∨ kb = b26) kb) (fun w' v' h => h) (by rintro k_ (hk_ | hk_); exact .inl hk_; exact .inr hk_) ?_
          clear F H; intro a w v27 F H
          refine aN (SL.of H (sub_cons (sub_nil _) 3 rfl)) fun hS => ?_
          obtain ⟨A27, c27, rfl⟩ := (H.row 19 rfl).form
          refine rT 10 F rfl (by kernel_rfl) pq rfl hS (fun w hS => x_nil (F.t 18 rfl)) rfl fun a F => ?_
          refine rT 11 F rfl (by kernel_rfl) pq rfl hS (fun w hS => x_faddr Tryz.underlying29 rfl ty26 (by decide) (F.t 28 rfl) rfl) rfl fun a F => ?_
          refine r_do 12 rfl (by kernel_rfl) rfl rfl ?_
          refine w_store 1 H ty26 rfl (F.t 29 rfl) (F.t 27 rfl) rfl (one1 rfl rfl) (by first | decide | exact Nat.le_of_ble_eq_true rfl) ?_
          clear H; intro w H
          refine aN (SL.of H (sub_cons (sub_nil _) 3 rfl)) fun hS => ?_
          refine r_end (by kernel_rfl) ?_; clear hS
          exact hJr4 _ _ _ _ _ hb26_ F.bare (H.sub _ (sub_cons (sub_cons (sub_cons (sub_cons (sub_cons (sub_cons (sub_cons (sub_nil _) 26 rfl) 19 rfl) 3 rfl) 911 rfl) 910 rfl) 2 rfl) 1 rfl))
      ·
        refine w_lit1 26 RwayE p #[.int .i64 p.m.kind, .int .i64 p.m.src, .int .i64 p.m.dst, .int .i64 p.m.tx, .slice Ap0 p.m.nodes.length cp0, .slice Ap1 p.m.changes.length cp1, .int .i64 p.epoch] (fun kb => okp0 kb ∨ okp1 kb) F H rfl Tryz.underlying26 ty48 (by simp only [bM, F.t 25 rfl] <;> rfl) (by decide) (by kernel_rfl) (rway_mk p ((H.rd 910 rfl).move (fun _ _ _ => rfl) (fun _ h _ => .inl h)) ((H.rd 911 rfl).move (fun _ _ _ => rfl) (fun _ h _ => .inr h))) (fun kb hk => hk.elim (fun h => ⟨910, _, rfl, h⟩) (fun h => ⟨911, _, rfl, h⟩)) ?_
        clear F H; intro a w b26 F hb26_ H
        refine aN (SL.of H (sub_cons (sub_nil _) 3 rfl)) fun hS => ?_
        refine r_do 1 rfl (by kernel_rfl) rfl rfl ?_
        refine w_lit0 RwayE 19 F H rfl Tryz.underlying26 ty48 ?_
        clear F H; intro a w b19 F H
        refine aN (SL.of H (sub_cons (sub_nil _) 3 rfl)) fun hS => ?_
        refine r_do 6 rfl (by kernel_rfl) rfl rfl ?_
        refine w_append 19 2 (xs := ([])) (ys := (rwy s.ways)) F H rfl Tryz.underlying26 ty48 rfl rfl rfl rfl ((H.rd 2 rfl)) (by intro k_ hk_; exact .inr hk_) (F.t 19 rfl) (F.t 23 rfl) (by simp only [List.length_nil, List.length_append, List.length_cons, List.length_take, List.length_drop]; omega) (by simp only [List.length_nil, List.length_append, List.length_cons, List.length_take, List.length_drop, maxLen]; omega) (fun kb => (fun _ => False) kb ∨ okl kb) (fun w' v' h => h) (by rintro k_ (hk_ | hk_); exact .inl hk_; exact .inr hk_) ?_
        clear F H; intro a w v24 F H
        refine aN (SL.of H (sub_cons (sub_nil _) 3 rfl)) fun hS => ?_
        refine r_do 9 rfl (by kernel_rfl) rfl rfl ?_
        refine w_append 19 26 (xs := ([] ++ (rwy s.ways))) (ys := ([p])) F H rfl Tryz.underlying26 ty48 rfl rfl rfl rfl ((H.rd 26 rfl)) (by intro k_ hk_; exact .inr hk_) (F.t 24 rfl) (F.t 26 rfl) (by simp only [List.length_nil, List.length_append, List.length_cons, List.length_take, List.length_drop]; omega) (by simp only [List.length_nil, List.length_append, List.length_cons, List.length_take, List.length_drop, maxLen]; omega) (fun kb => (fun kb => (fun _ => False) kb ∨ okl kb) kb ∨ (fun kb => (fun kb => okp0 kb ∨ okp1 kb) kb ∨ kb = b26) kb) (fun w' v' h => h) (by rintro k_ (hk_ | hk_); exact .inl hk_; exact .inr hk_) ?_
        clear F H; intro a w v27 F H
        refine aN (SL.of H (sub_cons (sub_nil _) 3 rfl)) fun hS => ?_
        obtain ⟨A27, c27, rfl⟩ := (H.row 19 rfl).form
        refine rT 10 F rfl (by kernel_rfl) pq rfl hS (fun w hS => x_nil (F.t 18 rfl)) rfl fun a F => ?_
        refine rT 11 F rfl (by kernel_rfl) pq rfl hS (fun w hS => x_faddr Tryz.underlying29 rfl ty26 (by decide) (F.t 28 rfl) rfl) rfl fun a F => ?_
        refine r_do 12 rfl (by kernel_rfl) rfl rfl ?_
        refine w_store 1 H ty26 rfl (F.t 29 rfl) (F.t 27 rfl) rfl (one1 rfl rfl) (by first | decide | exact Nat.le_of_ble_eq_true rfl) ?_
        clear H; intro w H
        refine aN (SL.of H (sub_cons (sub_nil _) 3 rfl)) fun hS => ?_
        refine r_end (by kernel_rfl) ?_; clear hS
        exact hJr4 _ _ _ _ _ hb26_ F.bare (H.sub _ (sub_cons (sub_cons (sub_cons (sub_cons (sub_cons (sub_cons (sub_cons (sub_nil _) 26 rfl) 19 rfl) 3 rfl) 911 rfl) 910 rfl) 2 rfl) 1 rfl))
    ·
      refine w_lit1 26 RwayE p #[.int .i64 p.m.kind, .int .i64 p.m.src, .int .i64 p.m.dst, .int .i64 p.m.tx, .slice Ap0 p.m.nodes.length cp0, .slice Ap1 p.m.changes.length cp1, .int .i64 p.epoch] (fun kb => okp0 kb ∨ okp1 kb) F H rfl Tryz.underlying26 ty48 (by simp only [bM, F.t 25 rfl] <;> rfl) (by decide) (by kernel_rfl) (rway_mk p ((H.rd 910 rfl).move (fun _ _ _ => rfl) (fun _ h _ => .inl h)) ((H.rd 911 rfl).move (fun _ _ _ => rfl) (fun _ h _ => .inr h))) (fun kb hk => hk.elim (fun h => ⟨910, _, rfl, h⟩) (fun h => ⟨911, _, rfl, h⟩)) ?_
      clear F H; intro a w b26 F hb26_ H
      refine aN (SL.of H (sub_cons (sub_nil _) 3 rfl)) fun hS => ?_
      refine r_do2 1 5 rfl rfl (by kernel_rfl) rfl rfl rfl rfl ?_ ?_
      ·
        refine w_lit0 RwayE 19 F H rfl Tryz.underlying26 ty48 ?_
        clear F H; intro a w b19 F H
        refine aN (SL.of H (sub_cons (sub_nil _) 3 rfl)) fun hS => ?_
        refine r_do 5 rfl (by kernel_rfl) rfl rfl ?_
        refine w_at F (x_load1 ty26 (F.t 22 rfl) (blk_cell (H.at 1 rfl) 0 rfl)) rfl rfl ?_
        clear F; intro a F
        refine aN (SL.of H (sub_cons (sub_nil _) 3 rfl)) fun hS => ?_
        refine r_do 6 rfl (by kernel_rfl) rfl rfl ?_
        refine w_append 19 2 (xs := ([])) (ys := (rwy s.ways)) F H rfl Tryz.underlying26 ty48 rfl rfl rfl rfl ((H.rd 2 rfl)) (by intro k_ hk_; exact .inr hk_) (F.t 19 rfl) (F.t 23 rfl) (by simp only [List.length_nil, List.length_append, List.length_cons, List.length_take, List.length_drop]; omega) (by simp only [List.length_nil, List.length_append, List.length_cons, List.length_take, List.length_drop, maxLen]; omega) (fun kb => (fun _ => False) kb ∨ okl kb) (fun w' v' h => h) (by rintro k_ (hk_ | hk_); exact .inl hk_; exact .inr hk_) ?_
        clear F H; intro a w v24 F H
        refine aN (SL.of H (sub_cons (sub_nil _) 3 rfl)) fun hS => ?_
        refine r_do 9 rfl (by kernel_rfl) rfl rfl ?_
        refine w_append 19 26 (xs := ([] ++ (rwy s.ways))) (ys := ([p])) F H rfl Tryz.underlying26 ty48 rfl rfl rfl rfl ((H.rd 26 rfl)) (by intro k_ hk_; exact .inr hk_) (F.t 24 rfl) (F.t 26 rfl) (by simp only [List.length_nil, List.length_append, List.length_cons, List.length_take, List.length_drop]; omega) (by simp only [List.length_nil, List.length_append, List.length_cons, List.length_take, List.length_drop, maxLen]; omega) (fun kb => (fun kb => (fun _ => False) kb ∨ okl kb) kb ∨ (fun kb => (fun kb => okp0 kb ∨ okp1 kb) kb ∨ kb = b26) kb) (fun w' v' h => h) (by rintro k_ (hk_ | hk_); exact .inl hk_; exact .inr hk_) ?_
        clear F H; intro a w v27 F H
        refine aN (SL.of H (sub_cons (sub_nil _) 3 rfl)) fun hS => ?_
        obtain ⟨A27, c27, rfl⟩ := (H.row 19 rfl).form
        refine rT 10 F rfl (by kernel_rfl) pq rfl hS (fun w hS => x_nil (F.t 18 rfl)) rfl fun a F => ?_
        refine rT 11 F rfl (by kernel_rfl) pq rfl hS (fun w hS => x_faddr Tryz.underlying29 rfl ty26 (by decide) (F.t 28 rfl) rfl) rfl fun a F => ?_
        refine r_do 12 rfl (by kernel_rfl) rfl rfl ?_
        refine w_store 1 H ty26 rfl (F.t 29 rfl) (F.t 27 rfl) rfl (one1 rfl rfl) (by first | decide | exact Nat.le_of_ble_eq_true rfl) ?_
        clear H; intro w H
        refine aN (SL.of H (sub_cons (sub_nil _) 3 rfl)) fun hS => ?_
        refine r_end (by kernel_rfl) ?_; clear hS
        exact hJr4 _ _ _ _ _ hb26_ F.bare (H.sub _ (sub_cons (sub_cons (sub_cons (sub_cons (sub_cons (sub_cons (sub_cons (sub_nil _) 26 rfl) 19 rfl) 3 rfl) 911 rfl) 910 rfl) 2 rfl) 1 rfl))
      ·
        refine w_at F (x_load1 ty26 (F.t 22 rfl) (blk_cell (H.at 1 rfl) 0 rfl)) rfl rfl ?_
        clear F; intro a F
        refine aN (SL.of H (sub_cons (sub_nil _) 3 rfl)) fun hS => ?_
        refine r_do 1 rfl (by kernel_rfl) rfl rfl ?_
        refine w_lit0 RwayE 19 F H rfl Tryz.underlying26 ty48 ?_
        clear F H; intro a w b19 F H
        refine aN (SL.of H (sub_cons (sub_nil _) 3 rfl)) fun hS => ?_
        refine r_do 6 rfl (by kernel_rfl) rfl rfl ?_
        refine w_append 19 2 (xs := ([])) (ys := (rwy s.ways)) F H rfl Tryz.underlying26 ty48 rfl rfl rfl rfl ((H.rd 2 rfl)) (by intro k_ hk_; exact .inr hk_) (F.t 19 rfl) (F.t 23 rfl) (by simp only [List.length_nil, List.length_append, List.length_cons, List.length_take, List.length_drop]; omega) (by simp only [List.length_nil, List.length_append, List.length_cons, List.length_take, List.length_drop, maxLen]; omega) (fun kb => (fun _ => False) kb ∨ okl kb) (fun w' v' h => h) (by rintro k_ (hk_ | hk_); exact .inl hk_; exact .inr hk_) ?_
        clear F H; intro a w v24 F H
        refine aN (SL.of H (sub_cons (sub_nil _) 3 rfl)) fun hS => ?_
        refine r_do 9 rfl (by kernel_rfl) rfl rfl ?_
        refine w_append 19 26 (xs := ([] ++ (rwy s.ways))) (ys := ([p])) F H rfl Tryz.underlying26 ty48 rfl rfl rfl rfl ((H.rd 26 rfl)) (by intro k_ hk_; exact .inr hk_) (F.t 24 rfl) (F.t 26 rfl) (by simp only [List.length_nil, List.length_append, List.length_cons, List.length_take, List.length_drop]; omega) (by simp only [List.length_nil, List.length_append, List.length_cons, List.length_take, List.length_drop, maxLen]; omega) (fun kb => (fun kb => (fun _ => False) kb ∨ okl kb) kb ∨ (fun kb => (fun kb => okp0 kb ∨ okp1 kb) kb ∨ kb = b26) kb) (fun w' v' h => h) (by rintro k_ (hk_ | hk_); exact .inl hk_; exact .inr hk_) ?_
        clear F H; intro a w v27 F H
        refine aN (SL.of H (sub_cons (sub_nil _) 3 rfl)) fun hS => ?_
        obtain ⟨A27, c27, rfl⟩ := (H.row 19 rfl).form
        refine rT 10 F rfl (by kernel_rfl) pq rfl hS (fun w hS => x_nil (F.t 18 rfl)) rfl fun a F => ?_
        refine rT 11 F rfl (by kernel_rfl) pq rfl hS (fun w hS => x_faddr Tryz.underlying29 rfl ty26 (by decide) (F.t 28 rfl) rfl) rfl fun a F => ?_
        refine r_do 12 rfl (by kernel_rfl) rfl rfl ?_
        refine w_store 1 H ty26 rfl (F.t 29 rfl) (F.t 27 rfl) rfl (one1 rfl rfl) (by first | decide | exact Nat.le_of_ble_eq_true rfl) ?_
        clear H; intro w H
        refine aN (SL.of H (sub_cons (sub_nil _) 3 rfl)) fun hS => ?_
        refine r_end (by kernel_rfl) ?_; clear hS
        exact hJr4 _ _ _ _ _ hb26_ F.bare (H.sub _ (sub_cons (sub_cons (sub_cons (sub_cons (sub_cons (sub_cons (sub_cons (sub_nil _) 26 rfl) 19 rfl) 3 rfl) 911 rfl) 910 rfl) 2 rfl) 1 rfl))
theorem rgone_calls (w0 : World) {X : Asn} {bl : Nat} {s : BagS} (hX : RBagA 29 bl s X) (hok : X.ok w0) (hs : BagOk s) {i : Int} (hi : isW s i = true) : Calls Tryz.prog 29 #[.pointer (some ⟨bl, 0, none⟩), .int .i64 i] w0 fun e w' => ∃ X', e = .returned (.tuple #[]) ∧ RBagA 29 bl (takeS s i) X' ∧ Grew (fun _ => False) (fun _ => False) X w0 w' X' := by
  obtain ⟨Al, cl, okl, rfl⟩ := hX
  refine cow Tryz.func29 rfl Tryz.ntmps29 (Nat.le_of_ble_eq_true rfl) fun a F => ?_
  have H := Hp.ofAll hok.holds
  have hll := (H.rd 2 rfl).le; unfold maxLen at hll
  have hfew := hs.few
  have hwl := rwy_len s.ways
  have hio := isW_parts hi
  refine wp_norm_k fun khK1 hK1 => ?_
  have hJr0 : ∀ a w, ∀ A20 : Option Addr, ∀ c20 : Nat, Fr 23 a [] → Hp (OwnL [(1, .blk bl (.cells #[.slice Al (rwy s.ways).length cl, .int .i64 (gi s.eps 0), .int .i64 (gi s.eps 1), .int .i64 (gi s.eps 2), .int .i64 (gi s.eps 3), .int .i64 (gi s.eps 4), .int .i64 (gi s.eps 5), .int .i64 (gi s.eps 6), .int .i64 (gi s.eps 7), .int .i64 s.lost] 29 (0, 0))), (2, .rd_ RwayE Al (rwy s.ways) cl okl)]) w0 w [(1, .blk bl (.cells #[.slice A20 (([] ++ ((rwy s.ways).take i.toNat)) ++ ((rwy s.ways).drop ((i + 1).toNat))).length c20, .int .i64 (gi s.eps 0), .int .i64 (gi s.eps 1), .int .i64 (gi s.eps 2), .int .i64 (gi s.eps 3), .int .i64 (gi s.eps 4), .int .i64 (gi s.eps 5), .int .i64 (gi s.eps 6), .int .i64 (gi s.eps 7), .int .i64 s.lost] 29 (0, 0))), (2, .rd_ RwayE Al (rwy s.ways) cl okl), (5, .row RwayE 48 (.slice A20 (([] ++ ((rwy s.ways).take i.toNat)) ++ ((rwy s.ways).drop ((i + 1).toNat))).length c20) (([] ++ ((rwy s.ways).take i.toNat)) ++ ((rwy s.ways).drop ((i + 1).toNat))) (fun kb => (fun kb => (fun _ => False) kb ∨ okl kb) kb ∨ okl kb))] → khK1 a w := by
    intro a w A20 c20 F H
    refine hK1 a w ?_
    try simp only [Exit.then, Exit.inBlock]
    try simp only [if_true]
    have hxl : (([] ++ ((rwy s.ways).take i.toNat)) ++ ((rwy s.ways).drop ((i + 1).toNat))) = (rwy (s.ways.take i.toNat ++ s.ways.drop (i.toNat + 1))) := by rw [List.nil_append, ← rwy_del, i1_nat hio.1]
    rw [hxl] at H
    have hfrn : ∀ kb, (Value.slice A20 (rwy (s.ways.take i.toNat ++ s.ways.drop (i.toNat + 1))).length c20).ownBlock = some kb → (OwnL [(1, .blk bl (.cells #[.slice Al (rwy s.ways).length cl, .int .i64 (gi s.eps 0), .int .i64 (gi s.eps 1), .int .i64 (gi s.eps 2), .int .i64 (gi s.eps 3), .int .i64 (gi s.eps 4), .int .i64 (gi s.eps 5), .int .i64 (gi s.eps 6), .int .i64 (gi s.eps 7), .int .i64 s.lost] 29 (0, 0))), (2, .rd_ RwayE Al (rwy s.ways) cl okl)]) kb ∨ w0.heap.size ≤ kb := fun kb h => H.mine 5 _ rfl kb h
    have H := H.freeze 5 rfl (fun kb => (fun kb => (fun kb => (fun _ => False) kb ∨ okl kb) kb ∨ okl kb) kb ∨ (Value.slice A20 (rwy (s.ways.take i.toNat ++ s.ways.drop (i.toNat + 1))).length c20).ownBlock = some kb) (fun kb => Iff.rfl)
    have H := H.subrd 5 rfl 2 (H.rd 5 rfl) (fun _ h => h)
    exact fin_end F (res0 rfl) ⟨Asn.all [(1, .blk bl (.cells #[.slice A20 (rwy (s.ways.take i.toNat ++ s.ways.drop (i.toNat + 1))).length c20, .int .i64 (gi s.eps 0), .int .i64 (gi s.eps 1), .int .i64 (gi s.eps 2), .int .i64 (gi s.eps 3), .int .i64 (gi s.eps 4), .int .i64 (gi s.eps 5), .int .i64 (gi s.eps 6), .int .i64 (gi s.eps 7), .int .i64 s.lost] 29 (0, 0))), (2, .rd_ RwayE A20 (rwy (s.ways.take i.toNat ++ s.ways.drop (i.toNat + 1))) c20 (fun kb => (fun kb => (fun kb => (fun _ => False) kb ∨ okl kb) kb ∨ okl kb) kb ∨ (Value.slice A20 (rwy (s.ways.take i.toNat ++ s.ways.drop (i.toNat + 1))).length c20).ownBlock = some kb))], rfl, by rw [(look_yes hi).2.2.1]; exact ⟨_, _, _, rfl⟩, grew_of (H.sub [(1, .blk bl (.cells #[.slice A20 (rwy (s.ways.take i.toNat ++ s.ways.drop (i.toNat + 1))).length c20, .int .i64 (gi s.eps 0), .int .i64 (gi s.eps 1), .int .i64 (gi s.eps 2), .int .i64 (gi s.eps 3), .int .i64 (gi s.eps 4), .int .i64 (gi s.eps 5), .int .i64 (gi s.eps 6), .int .i64 (gi s.eps 7), .int .i64 s.lost] 29 (0, 0))), (2, .rd_ RwayE A20 (rwy (s.ways.take i.toNat ++ s.ways.drop (i.toNat + 1))) c20 (fun kb => (fun kb => (fun kb => (fun _ => False) kb ∨ okl kb) kb ∨ okl kb) kb ∨ (Value.slice A20 (rwy (s.ways.take i.toNat ++ s.ways.drop (i.toNat + 1))).length c20).ownBlock = some kb))] (sub_cons (sub_cons (sub_nil _) 2 rfl) 1 rfl)) (rdin_cons (fun k h => h.elim) (rdin_cons (fun k h => Or.elim h (fun h => by rcases h with (h | h) | h; exact h.elim; exact .inr (.inl ⟨2, _, rfl, h⟩); exact .inr (.inl ⟨2, _, rfl, h⟩)) (fun h => (hfrn k h).elim .inl (fun q => .inr (.inr (.inr q))))) rdin_nil))⟩
  refine r_start [] (by kernel_rfl) H fun H => ?_
  have hS : SL [] _ := SL.of H (sub_nil _)
  refine rT 0 F rfl (by kernel_rfl) pq rfl hS (fun w hS => x_move (F.t 0 rfl)) rfl fun a F => ?_
  refine rT 2 F rfl (by kernel_rfl) pq rfl hS (fun w hS => x_move (F.t 0 rfl)) rfl fun a F => ?_
  refine rT 3 F rfl (by kernel_rfl) pq rfl hS (fun w hS => x_nil (F.t 6 rfl)) rfl fun a F => ?_
  refine rT 4 F rfl (by kernel_rfl) pq rfl hS (fun w hS => x_faddr Tryz.underlying29 rfl ty26 (by decide) (F.t 7 rfl) rfl) rfl fun a F => ?_
  refine rT 6 F rfl (by kernel_rfl) pq rfl hS (fun w hS => x_move (F.t 1 rfl)) rfl fun a F => ?_
  refine rT 9 F rfl (by kernel_rfl) pq rfl hS (fun w hS => x_move (F.t 0 rfl)) rfl fun a F => ?_
  refine rT 10 F rfl (by kernel_rfl) pq rfl hS (fun w hS => x_nil (F.t 13 rfl)) rfl fun a F => ?_
  refine rT 11 F rfl (by kernel_rfl) pq rfl hS (fun w hS => x_faddr Tryz.underlying29 rfl ty26 (by decide) (F.t 14 rfl) rfl) rfl fun a F => ?_
  refine rT 13 F rfl (by kernel_rfl) pq rfl hS (fun w hS => x_move (F.t 1 rfl)) rfl fun a F => ?_
  refine rT 14 F rfl (by kernel_rfl) pq rfl hS (fun w hS => x_add (F.t 17 rfl) rfl (w64 (by omega) (by omega))) rfl fun a F => ?_
  refine r_do3 1 5 12 rfl rfl rfl (by kernel_rfl) rfl rfl rfl rfl rfl rfl ?_ ?_ ?_
  ·
    refine w_lit0 RwayE 5 F H rfl Tryz.underlying26 ty48 ?_
    clear F H; intro a w b5 F H
    refine aN (SL.of H (sub_nil _)) fun hS => ?_
    refine r_do2 5 12 rfl rfl (by kernel_rfl) rfl rfl rfl rfl ?_ ?_
    ·
      refine w_at F (x_load1 ty26 (F.t 8 rfl) (blk_cell (H.at 1 rfl) 0 rfl)) rfl rfl ?_
      clear F; intro a F
      refine aN (SL.of H (sub_nil _)) fun hS => ?_
      refine rT 7 F rfl (by kernel_rfl) pq rfl hS (fun w hS => x_slice_h Tryz.underlying26 ty48 (F.t 9 rfl) (F.t 10 rfl) (by omega) (by omega) ((H.rd 2 rfl)).1) rfl fun a F => ?_
      refine r_do2 8 12 rfl rfl (by kernel_rfl) rfl rfl rfl rfl ?_ ?_
      ·
        refine w_append 5 2 (xs := ([])) (ys := ((rwy s.ways).take i.toNat)) F H rfl Tryz.underlying26 ty48 rfl rfl rfl rfl ((Rd.take ((H.rd 2 rfl)) i.toNat)) (by intro k_ hk_; exact .inr hk_) (F.t 5 rfl) (F.t 11 rfl) (by simp only [List.length_nil, List.length_append, List.length_cons, List.length_take, List.length_drop]; omega) (by simp only [List.length_nil, List.length_append, List.length_cons, List.length_take, List.length_drop, maxLen]; omega) (fun kb => (fun _ => False) kb ∨ okl kb) (fun w' v' h => h) (by rintro k_ (hk_ | hk_); exact .inl hk_; exact .inr hk_) ?_
        clear F H; intro a w v12 F H
        refine aN (SL.of H (sub_nil _)) fun hS => ?_
        refine r_do 12 rfl (by kernel_rfl) rfl rfl ?_
        refine w_at F (x_load1 ty26 (F.t 15 rfl) (blk_cell (H.at 1 rfl) 0 rfl)) rfl rfl ?_
        clear F; intro a F
        refine aN (SL.of H (sub_nil _)) fun hS => ?_
        refine rT 15 F rfl (by kernel_rfl) pq rfl hS (fun w hS => x_slice_l (E := RwayE) Tryz.underlying26 ty48 (F.t 16 rfl) (F.t 18 rfl) (by omega) (by omega) ((H.rd 2 rfl)).1) rfl fun a F => ?_
        refine r_do 16 rfl (by kernel_rfl) rfl rfl ?_
        refine w_append 5 2 (xs := ([] ++ ((rwy s.ways).take i.toNat))) (ys := ((rwy s.ways).drop ((i + 1).toNat))) F H rfl Tryz.underlying26 ty48 rfl rfl rfl rfl ((Rd.drop ((H.rd 2 rfl)) (by omega : (i + 1).toNat ≤ (rwy s.ways).length))) (by intro k_ hk_; exact .inr hk_) (F.t 12 rfl) (F.t 19 rfl) (by simp only [List.length_nil, List.length_append, List.length_cons, List.length_take, List.length_drop]; omega) (by simp only [List.length_nil, List.length_append, List.length_cons, List.length_take, List.length_drop, maxLen]; omega) (fun kb => (fun kb => (fun _ => False) kb ∨ okl kb) kb ∨ okl kb) (fun w' v' h => h) (by rintro k_ (hk_ | hk_); exact .inl hk_; exact .inr hk_) ?_
        clear F H; intro a w v20 F H
        refine aN (SL.of H (sub_nil _)) fun hS => ?_
        obtain ⟨A20, c20, rfl⟩ := (H.row 5 rfl).form
        refine rT 17 F rfl (by kernel_rfl) pq rfl hS (fun w hS => x_nil (F.t 4 rfl)) rfl fun a F => ?_
        refine rT 18 F rfl (by kernel_rfl) pq rfl hS (fun w hS => x_faddr Tryz.underlying29 rfl ty26 (by decide) (F.t 21 rfl) rfl) rfl fun a F => ?_
        refine r_do 19 rfl (by kernel_rfl) rfl rfl ?_
        refine w_store 1 H ty26 rfl (F.t 22 rfl) (F.t 20 rfl) rfl (one1 rfl rfl) (by first | decide | exact Nat.le_of_ble_eq_true rfl) ?_
        clear H; intro w H
        refine aN (SL.of H (sub_nil _)) fun hS => ?_
        refine r_end (by kernel_rfl) ?_; clear hS
        exact hJr0 _ _ _ _ F.bare (H.sub _ (sub_cons (sub_cons (sub_cons (sub_nil _) 5 rfl) 2 rfl) 1 rfl))
      ·
        refine w_at F (x_load1 ty26 (F.t 15 rfl) (blk_cell (H.at 1 rfl) 0 rfl)) rfl rfl ?_
        clear F; intro a F
        refine aN (SL.of H (sub_nil _)) fun hS => ?_
        refine rT 15 F rfl (by kernel_rfl) pq rfl hS (fun w hS => x_slice_l (E := RwayE) Tryz.underlying26 ty48 (F.t 16 rfl) (F.t 18 rfl) (by omega) (by omega) ((H.rd 2 rfl)).1) rfl fun a F => ?_
        refine r_do 8 rfl (by kernel_rfl) rfl rfl ?_
        refine w_append 5 2 (xs := ([])) (ys := ((rwy s.ways).take i.toNat)) F H rfl Tryz.underlying26 ty48 rfl rfl rfl rfl ((Rd.take ((H.rd 2 rfl)) i.toNat)) (by intro k_ hk_; exact .inr hk_) (F.t 5 rfl) (F.t 11 rfl) (by simp only [List.length_nil, List.length_append, List.length_cons, List.length_take, List.length_drop]; omega) (by simp only [List.length_nil, List.length_append, List.length_cons, List.length_take, List.length_drop, maxLen]; omega) (fun kb => (fun _ => False) kb ∨ okl kb) (fun w' v' h => h) (by rintro k_ (hk_ | hk_); exact .inl hk_; exact .inr hk_) ?_
        clear F H; intro a w v12 F H
        refine aN (SL.of H (sub_nil _)) fun hS => ?_
        refine r_do 16 rfl (by kernel_rfl) rfl rfl ?_
        refine w_append 5 2 (xs := ([] ++ ((rwy s.ways).take i.toNat))) (ys := ((rwy s.ways).drop ((i + 1).toNat))) F H rfl Tryz.underlying26 ty48 rfl rfl rfl rfl ((Rd.drop ((H.rd 2 rfl)) (by omega : (i + 1).toNat ≤ (rwy s.ways).length))) (by intro k_ hk_; exact .inr hk_) (F.t 12 rfl) (F.t 19 rfl) (by simp only [List.length_nil, List.length_append, List.length_cons, List.length_take, List.length_drop]; omega) (by simp only [List.length_nil, List.length_append, List.length_cons, List.length_take, List.length_drop, maxLen]; omega) (fun kb => (fun kb => (fun _ => False) kb ∨ okl kb) kb ∨ okl kb) (fun w' v' h => h) (by rintro k_ (hk_ | hk_); exact .inl hk_; exact .inr hk_) ?_
        clear F H; intro a w v20 F H
        refine aN (SL.of H (sub_nil _)) fun hS => ?_
        obtain ⟨A20, c20, rfl⟩ := (H.row 5 rfl).form
        refine rT 17 F rfl (by kernel_rfl) pq rfl hS (fun w hS => x_nil (F.t 4 rfl)) rfl fun a F => ?_
        refine rT 18 F rfl (by kernel_rfl) pq rfl hS (fun w hS => x_faddr Tryz.underlying29 rfl ty26 (by decide) (F.t 21 rfl) rfl) rfl fun a F => ?_
        refine r_do 19 rfl (by kernel_rfl) rfl rfl ?_
        refine w_store 1 H ty26 rfl (F.t 22 rfl) (F.t 20 rfl) rfl (one1 rfl rfl) (by first | decide | exact Nat.le_of_ble_eq_true rfl) ?_
        clear H; intro w H
        refine aN (SL.of H (sub_nil _)) fun hS => ?_
        refine r_end (by kernel_rfl) ?_; clear hS
        exact hJr0 _ _ _ _ F.bare (H.sub _ (sub_cons (sub_cons (sub_cons (sub_nil _) 5 rfl) 2 rfl) 1 rfl))
    ·
      refine w_at F (x_load1 ty26 (F.t 15 rfl) (blk_cell (H.at 1 rfl) 0 rfl)) rfl rfl ?_
      clear F; intro a F
      refine aN (SL.of H (sub_nil _)) fun hS => ?_
      refine rT 15 F rfl (by kernel_rfl) pq rfl hS (fun w hS => x_slice_l (E := RwayE) Tryz.underlying26 ty48 (F.t 16 rfl) (F.t 18 rfl) (by omega) (by omega) ((H.rd 2 rfl)).1) rfl fun a F => ?_
      refine r_do 5 rfl (by kernel_rfl) rfl rfl ?_
      refine w_at F (x_load1 ty26 (F.t 8 rfl) (blk_cell (H.at 1 rfl) 0 rfl)) rfl rfl ?_
      clear F; intro a F
      refine aN (SL.of H (sub_nil _)) fun hS => ?_
      refine rT 7 F rfl (by kernel_rfl) pq rfl hS (fun w hS => x_slice_h Tryz.underlying26 ty48 (F.t 9 rfl) (F.t 10 rfl) (by omega) (by omega) ((H.rd 2 rfl)).1) rfl fun a F => ?_
      refine r_do 8 rfl (by kernel_rfl) rfl rfl ?_
      refine w_append 5 2 (xs := ([])) (ys := ((rwy s.ways).take i.toNat)) F H rfl Tryz.underlying26 ty48 rfl rfl rfl rfl ((Rd.take ((H.rd 2 rfl)) i.toNat)) (by intro k_ hk_; exact .inr hk_) (F.t 5 rfl) (F.t 11 rfl) (by simp only [List.length_nil, List.length_append, List.length_cons, List.length_take, List.length_drop]; omega) (by simp only [List.length_nil, List.length_append, List.length_cons, List.length_take, List.length_drop, maxLen]; omega) (fun kb => (fun _ => False) kb ∨ okl kb) (fun w' v' h => h) (by rintro k_ (hk_ | hk_); exact .inl hk_; exact .inr hk_) ?_
      clear F H; intro a w v12 F H
      refine aN (SL.of H (sub_nil _)) fun hS => ?_
      refine r_do 16 rfl (by kernel_rfl) rfl rfl ?_
      refine w_append 5 2 (xs := ([] ++ ((rwy s.ways).take i.toNat))) (ys := ((rwy s.ways).drop ((i + 1).toNat))) F H rfl Tryz.underlying26 ty48 rfl rfl rfl rfl ((Rd.drop ((H.rd 2 rfl)) (by omega : (i + 1).toNat ≤ (rwy s.ways).length))) (by intro k_ hk_; exact .inr hk_) (F.t 12 rfl) (F.t 19 rfl) (by simp only [List.length_nil, List.length_append, List.length_cons, List.length_take, List.length_drop]; omega) (by simp only [List.length_nil, List.length_append, List.length_cons, List.length_take, List.length_drop, maxLen]; omega) (fun kb => (fun kb => (fun _ => False) kb ∨ okl kb) kb ∨ okl kb) (fun w' v' h => h) (by rintro k_ (hk_ | hk_); exact .inl hk_; exact .inr hk_) ?_
      clear F H; intro a w v20 F H
      refine aN (SL.of H (sub_nil _)) fun hS => ?_
      obtain ⟨A20, c20, rfl⟩ := (H.row 5 rfl).form
      refine rT 17 F rfl (by kernel_rfl) pq rfl hS (fun w hS => x_nil (F.t 4 rfl)) rfl fun a F => ?_
      refine rT 18 F rfl (by kernel_rfl) pq rfl hS (fun w hS => x_faddr Tryz.underlying29 rfl ty26 (by decide) (F.t 21 rfl) rfl) rfl fun a F => ?_
      refine r_do 19 rfl (by kernel_rfl) rfl rfl ?_
      refine w_store 1 H ty26 rfl (F.t 22 rfl) (F.t 20 rfl) rfl (one1 rfl rfl) (by first | decide | exact Nat.le_of_ble_eq_true rfl) ?_
      clear H; intro w H
      refine aN (SL.of H (sub_nil _)) fun hS => ?_
      refine r_end (by kernel_rfl) ?_; clear hS
      exact hJr0 _ _ _ _ F.bare (H.sub _ (sub_cons (sub_cons (sub_cons (sub_nil _) 5 rfl) 2 rfl) 1 rfl))
  ·
    refine w_at F (x_load1 ty26 (F.t 8 rfl) (blk_cell (H.at 1 rfl) 0 rfl)) rfl rfl ?_
    clear F; intro a F
    refine aN (SL.of H (sub_nil _)) fun hS => ?_
    refine rT 7 F rfl (by kernel_rfl) pq rfl hS (fun w hS => x_slice_h Tryz.underlying26 ty48 (F.t 9 rfl) (F.t 10 rfl) (by omega) (by omega) ((H.rd 2 rfl)).1) rfl fun a F => ?_
    refine r_do2 1 12 rfl rfl (by kernel_rfl) rfl rfl rfl rfl ?_ ?_
    ·
      refine w_lit0 RwayE 5 F H rfl Tryz.underlying26 ty48 ?_
      clear F H; intro a w b5 F H
      refine aN (SL.of H (sub_nil _)) fun hS => ?_
      refine r_do2 8 12 rfl rfl (by kernel_rfl) rfl rfl rfl rfl ?_ ?_
      ·
        refine w_append 5 2 (xs := ([])) (ys := ((rwy s.ways).take i.toNat)) F H rfl Tryz.underlying26 ty48 rfl rfl rfl rfl ((Rd.take ((H.rd 2 rfl)) i.toNat)) (by intro k_ hk_; exact .inr hk_) (F.t 5 rfl) (F.t 11 rfl) (by simp only [List.length_nil, List.length_append, List.length_cons, List.length_take, List.length_drop]; omega) (by simp only [List.length_nil, List.length_append, List.length_cons, List.length_take, List.length_drop, maxLen]; omega) (fun kb => (fun _ => False) kb ∨ okl kb) (fun w' v' h => h) (by rintro k_ (hk_ | hk_); exact .inl hk_; exact .inr hk_) ?_
        clear F H; intro a w v12 F H
        refine aN (SL.of H (sub_nil _)) fun hS => ?_
        refine r_do 12 rfl (by kernel_rfl) rfl rfl ?_
        refine w_at F (x_load1 ty26 (F.t 15 rfl) (blk_cell (H.at 1 rfl) 0 rfl)) rfl rfl ?_
        clear F; intro a F
        refine aN (SL.of H (sub_nil _)) fun hS => ?_
        refine rT 15 F rfl (by kernel_rfl) pq rfl hS (fun w hS => x_slice_l (E := RwayE) Tryz.underlying26 ty48 (F.t 16 rfl) (F.t 18 rfl) (by omega) (by omega) ((H.rd 2 rfl)).1) rfl fun a F => ?_
        refine r_do 16 rfl (by kernel_rfl) rfl rfl ?_
        refine w_append 5 2 (xs := ([] ++ ((rwy s.ways).take i.toNat))) (ys := ((rwy s.ways).drop ((i + 1).toNat))) F H rfl Tryz.underlying26 ty48 rfl rfl rfl rfl ((Rd.drop ((H.rd 2 rfl)) (by omega : (i + 1).toNat ≤ (rwy s.ways).length))) (by intro k_ hk_; exact .inr hk_) (F.t 12 rfl) (F.t 19 rfl) (by simp only [List.length_nil, List.length_append, List.length_cons, List.length_take, List.length_drop]; omega) (by simp only [List.length_nil, List.length_append, List.length_cons, List.length_take, List.length_drop, maxLen]; omega) (fun kb => (fun kb => (fun _ => False) kb ∨ okl kb) kb ∨ okl kb) (fun w' v' h => h) (by rintro k_ (hk_ | hk_); exact .inl hk_; exact .inr hk_) ?_
        clear F H; intro a w v20 F H
        refine aN (SL.of H (sub_nil _)) fun hS => ?_
        obtain ⟨A20, c20, rfl⟩ := (H.row 5 rfl).form
        refine rT 17 F rfl (by kernel_rfl) pq rfl hS (fun w hS => x_nil (F.t 4 rfl)) rfl fun a F => ?_
        refine rT 18 F rfl (by kernel_rfl) pq rfl hS (fun w hS => x_faddr Tryz.underlying29 rfl ty26 (by decide) (F.t 21 rfl) rfl) rfl fun a F => ?_
        refine r_do 19 rfl (by kernel_rfl) rfl rfl ?_
        refine w_store 1 H ty26 rfl (F.t 22 rfl) (F.t 20 rfl) rfl (one1 rfl rfl) (by first | decide | exact Nat.le_of_ble_eq_true rfl) ?_
        clear H; intro w H
        refine aN (SL.of H (sub_nil _)) fun hS => ?_
        refine r_end (by kernel_rfl) ?_; clear hS
        exact hJr0 _ _ _ _ F.bare (H.sub _ (sub_cons (sub_cons (sub_cons (sub_nil _) 5 rfl) 2 rfl) 1 rfl))
      ·
        refine w_at F (x_load1 ty26 (F.t 15 rfl) (blk_cell (H.at 1 rfl) 0 rfl)) rfl rfl ?_
        clear F; intro a F
        refine aN (SL.of H (sub_nil _)) fun hS => ?_
        refine rT 15 F rfl (by kernel_rfl) pq rfl hS (fun w hS => x_slice_l (E := RwayE) Tryz.underlying26 ty48 (F.t 16 rfl) (F.t 18 rfl) (by omega) (by omega) ((H.rd 2 rfl)).1) rfl fun a F => ?_
        refine r_do 8 rfl (by kernel_rfl) rfl rfl ?_
        refine w_append 5 2 (xs := ([])) (ys := ((rwy s.ways).take i.toNat)) F H rfl Tryz.underlying26 ty48 rfl rfl rfl rfl ((Rd.take ((H.rd 2 rfl)) i.toNat)) (by intro k_ hk_; exact .inr hk_) (F.t 5 rfl) (F.t 11 rfl) (by simp only [List.length_nil, List.length_append, List.length_cons, List.length_take, List.length_drop]; omega) (by simp only [List.length_nil, List.length_append, List.length_cons, List.length_take, List.length_drop, maxLen]; omega) (fun kb => (fun _ => False) kb ∨ okl kb) (fun w' v' h => h) (by rintro k_ (hk_ | hk_); exact .inl hk_; exact .inr hk_) ?_
        clear F H; intro a w v12 F H
        refine aN (SL.of H (sub_nil _)) fun hS => ?_
        refine r_do 16 rfl (by kernel_rfl) rfl rfl ?_
        refine w_append 5 2 (xs := ([] ++ ((rwy s.ways).take i.toNat))) (ys := ((rwy s.ways).drop ((i + 1).toNat))) F H rfl Tryz.underlying26 ty48 rfl rfl rfl rfl ((Rd.drop ((H.rd 2 rfl)) (by omega : (i + 1).toNat ≤ (rwy s.ways).length))) (by intro k_ hk_; exact .inr hk_) (F.t 12 rfl) (F.t 19 rfl) (by simp only [List.length_nil, List.length_append, List.length_cons, List.length_take, List.length_drop]; omega) (by simp only [List.length_nil, List.length_append, List.length_cons, List.length_take, List.length_drop, maxLen]; omega) (fun kb => (fun kb => (fun _ => False) kb ∨ okl kb) kb ∨ okl kb) (fun w' v' h => h) (by rintro k_ (hk_ | hk_); exact .inl hk_; exact .inr hk_) ?_
        clear F H; intro a w v20 F H
        refine aN (SL.of H (sub_nil _)) fun hS => ?_
        obtain ⟨A20, c20, rfl⟩ := (H.row 5 rfl).form
        refine rT 17 F rfl (by kernel_rfl) pq rfl hS (fun w hS => x_nil (F.t 4 rfl)) rfl fun a F => ?_
        refine rT 18 F rfl (by kernel_rfl) pq rfl hS (fun w hS => x_faddr Tryz.underlying29 rfl ty26 (by decide) (F.t 21 rfl) rfl) rfl fun a F => ?_
        refine r_do 19 rfl (by kernel_rfl) rfl rfl ?_
        refine w_store 1 H ty26 rfl (F.t 22 rfl) (F.t 20 rfl) rfl (one1 rfl rfl) (by first | decide | exact Nat.le_of_ble_eq_true rfl) ?_
        clear H; intro w H
        refine aN (SL.of H (sub_nil _)) fun hS => ?_
        refine r_end (by kernel_rfl) ?_; clear hS
        exact hJr0 _ _ _ _ F.bare (H.sub _ (sub_cons (sub_cons (sub_cons (sub_nil _) 5 rfl) 2 rfl) 1 rfl))
    ·
      refine w_at F (x_load1 ty26 (F.t 15 rfl) (blk_cell (H.at 1 rfl) 0 rfl)) rfl rfl ?_
      clear F; intro a F
      refine aN (SL.of H (sub_nil _)) fun hS => ?_
      refine rT 15 F rfl (by kernel_rfl) pq rfl hS (fun w hS => x_slice_l (E := RwayE) Tryz.underlying26 ty48 (F.t 16 rfl) (F.t 18 rfl) (by omega) (by omega) ((H.rd 2 rfl)).1) rfl fun a F => ?_
      refine r_do 1 rfl (by kernel_rfl) rfl rfl ?_
      refine w_lit0 RwayE 5 F H rfl Tryz.underlying26 ty48 ?_
      clear F H; intro a w b5 F H
      refine aN (SL.of H (sub_nil _)) fun hS => ?_
      refine r_do 8 rfl (by kernel_rfl) rfl rfl ?_
      refine w_append 5 2 (xs := ([])) (ys := ((rwy s.ways).take i.toNat)) F H rfl Tryz.underlying26 ty48 rfl rfl rfl rfl ((Rd.take ((H.rd 2 rfl)) i.toNat)) (by intro k_ hk_; exact .inr hk_) (F.t 5 rfl) (F.t 11 rfl) (by simp only [List.length_nil, List.length_append, List.length_cons, List.length_take, List.length_drop]; omega) (by simp only [List.length_nil, List.length_append, List.length_cons, List.length_take, List.length_drop, maxLen]; omega) (fun kb => (fun _ => False) kb ∨ okl kb) (fun w' v' h => h) (by rintro k_ (hk_ | hk_); exact .inl hk_; exact .inr hk_) ?_
      clear F H; intro a w v12 F H
      refine aN (SL.of H (sub_nil _)) fun hS => ?_
      refine r_do 16 rfl (by kernel_rfl) rfl rfl ?_
      refine w_append 5 2 (xs := ([] ++ ((rwy s.ways).take i.toNat))) (ys := ((rwy s.ways).drop ((i + 1).toNat))) F H rfl Tryz.underlying26 ty48 rfl rfl rfl rfl ((Rd.drop ((H.rd 2 rfl)) (by omega : (i + 1).toNat ≤ (rwy s.ways).length))) (by intro k_ hk_; exact .inr hk_) (F.t 12 rfl) (F.t 19 rfl) (by simp only [List.length_nil, List.length_append, List.length_cons, List.length_take, List.length_drop]; omega) (by simp only [List.length_nil, List.length_append, List.length_cons, List.length_take, List.length_drop, maxLen]; omega) (fun kb => (fun kb => (fun _ => False) kb ∨ okl kb) kb ∨ okl kb) (fun w' v' h => h) (by rintro k_ (hk_ | hk_); exact .inl hk_; exact .inr hk_) ?_
      clear F H; intro a w v20 F H
      refine aN (SL.of H (sub_nil _)) fun hS => ?_
      obtain ⟨A20, c20, rfl⟩ := (H.row 5 rfl).form
      refine rT 17 F rfl (by kernel_rfl) pq rfl hS (fun w hS => x_nil (F.t 4 rfl)) rfl fun a F => ?_
      refine rT 18 F rfl (by kernel_rfl) pq rfl hS (fun w hS => x_faddr Tryz.underlying29 rfl ty26 (by decide) (F.t 21 rfl) rfl) rfl fun a F => ?_
      refine r_do 19 rfl (by kernel_rfl) rfl rfl ?_
      refine w_store 1 H ty26 rfl (F.t 22 rfl) (F.t 20 rfl) rfl (one1 rfl rfl) (by first | decide | exact Nat.le_of_ble_eq_true rfl) ?_
      clear H; intro w H
      refine aN (SL.of H (sub_nil _)) fun hS => ?_
      refine r_end (by kernel_rfl) ?_; clear hS
      exact hJr0 _ _ _ _ F.bare (H.sub _ (sub_cons (sub_cons (sub_cons (sub_nil _) 5 rfl) 2 rfl) 1 rfl))
  ·
    refine w_at F (x_load1 ty26 (F.t 15 rfl) (blk_cell (H.at 1 rfl) 0 rfl)) rfl rfl ?_
    clear F; intro a F
    refine aN (SL.of H (sub_nil _)) fun hS => ?_
    refine rT 15 F rfl (by kernel_rfl) pq rfl hS (fun w hS => x_slice_l (E := RwayE) Tryz.underlying26 ty48 (F.t 16 rfl) (F.t 18 rfl) (by omega) (by omega) ((H.rd 2 rfl)).1) rfl fun a F => ?_
    refine r_do2 1 5 rfl rfl (by kernel_rfl) rfl rfl rfl rfl ?_ ?_
    ·
      refine w_lit0 RwayE 5 F H rfl Tryz.underlying26 ty48 ?_
      clear F H; intro a w b5 F H
      refine aN (SL.of H (sub_nil _)) fun hS => ?_
      refine r_do 5 rfl (by kernel_rfl) rfl rfl ?_
      refine w_at F (x_load1 ty26 (F.t 8 rfl) (blk_cell (H.at 1 rfl) 0 rfl)) rfl rfl ?_
      clear F; intro a F
      refine aN (SL.of H (sub_nil _)) fun hS => ?_
      refine rT 7 F rfl (by kernel_rfl) pq rfl hS (fun w hS => x_slice_h Tryz.underlying26 ty48 (F.t 9 rfl) (F.t 10 rfl) (by omega) (by omega) ((H.rd 2 rfl)).1) rfl fun a F => ?_
      refine r_do 8 rfl (by kernel_rfl) rfl rfl ?_
      refine w_append 5 2 (xs := ([])) (ys := ((rwy s.ways).take i.toNat)) F H rfl Tryz.underlying26 ty48 rfl rfl rfl rfl ((Rd.take ((H.rd 2 rfl)) i.toNat)) (by intro k_ hk_; exact .inr hk_) (F.t 5 rfl) (F.t 11 rfl) (by simp only [List.length_nil, List.length_append, List.length_cons, List.length_take, List.length_drop]; omega) (by simp only [List.length_nil, List.length_append, List.length_cons, List.length_take, List.length_drop, maxLen]; omega) (fun kb => (fun _ => False) kb ∨ okl kb) (fun w' v' h => h) (by rintro k_ (hk_ | hk_); exact .inl hk_; exact .inr hk_) ?_
      clear F H; intro a w v12 F H
      refine aN (SL.of H (sub_nil _)) fun hS => ?_
      refine r_do 16 rfl (by kernel_rfl) rfl rfl ?_
      refine w_append 5 2 (xs := ([] ++ ((rwy s.ways).take i.toNat))) (ys := ((rwy s.ways).drop ((i + 1).toNat))) F H rfl Tryz.underlying26 ty48 rfl rfl rfl rfl ((Rd.drop ((H.rd 2 rfl)) (by omega : (i + 1).toNat ≤ (rwy s.ways).length))) (by intro k_ hk_; exact .inr hk_) (F.t 12 rfl) (F.t 19 rfl) (by simp only [List.length_nil, List.length_append, List.length_cons, List.length_take, List.length_drop]; omega) (by simp only [List.length_nil, List.length_append, List.length_cons, List.length_take, List.length_drop, maxLen]; omega) (fun kb => (fun kb => (fun _ => False) kb ∨ okl kb) kb ∨ okl kb) (fun w' v' h => h) (by rintro k_ (hk_ | hk_); exact .inl hk_; exact .inr hk_) ?_
      clear F H; intro a w v20 F H
      refine aN (SL.of H (sub_nil _)) fun hS => ?_
      obtain ⟨A20, c20, rfl⟩ := (H.row 5 rfl).form
      refine rT 17 F rfl (by kernel_rfl) pq rfl hS (fun w hS => x_nil (F.t 4 rfl)) rfl fun a F => ?_
      refine rT 18 F rfl (by kernel_rfl) pq rfl hS (fun w hS => x_faddr Tryz.underlying29 rfl ty26 (by decide) (F.t 21 rfl) rfl) rfl fun a F => ?_
      refine r_do 19 rfl (by kernel_rfl) rfl rfl ?_
      refine w_store 1 H ty26 rfl (F.t 22 rfl) (F.t 20 rfl) rfl (one1 rfl rfl) (by first | decide | exact Nat.le_of_ble_eq_true rfl) ?_
      clear H; intro w H
      refine aN (SL.of H (sub_nil _)) fun hS => ?_
      refine r_end (by kernel_rfl) ?_; clear hS
      exact hJr0 _ _ _ _ F.bare (H.sub _ (sub_cons (sub_cons (sub_cons (sub_nil _) 5 rfl) 2 rfl) 1 rfl))
    ·
      refine w_at F (x_load1 ty26 (F.t 8 rfl) (blk_cell (H.at 1 rfl) 0 rfl)) rfl rfl ?_
      clear F; intro a F
      refine aN (SL.of H (sub_nil _)) fun hS => ?_
      refine rT 7 F rfl (by kernel_rfl) pq rfl hS (fun w hS => x_slice_h Tryz.underlying26 ty48 (F.t 9 rfl) (F.t 10 rfl) (by omega) (by omega) ((H.rd 2 rfl)).1) rfl fun a F => ?_
      refine r_do 1 rfl (by kernel_rfl) rfl rfl ?_
      refine w_lit0 RwayE 5 F H rfl Tryz.underlying26 ty48 ?_
      clear F H; intro a w b5 F H
      refine aN (SL.of H (sub_nil _)) fun hS => ?_
      refine r_do 8 rfl (by kernel_rfl) rfl rfl ?_
      refine w_append 5 2 (xs := ([])) (ys := ((rwy s.ways).take i.toNat)) F H rfl Tryz.underlying26 ty48 rfl rfl rfl rfl ((Rd.take ((H.rd 2 rfl)) i.toNat)) (by intro k_ hk_; exact .inr hk_) (F.t 5 rfl) (F.t 11 rfl) (by simp only [List.length_nil, List.length_append, List.length_cons, List.length_take, List.length_drop]; omega) (by simp only [List.length_nil, List.length_append, List.length_cons, List.length_take, List.length_drop, maxLen]; omega) (fun kb => (fun _ => False) kb ∨ okl kb) (fun w' v' h => h) (by rintro k_ (hk_ | hk_); exact .inl hk_; exact .inr hk_) ?_
      clear F H; intro a w v12 F H
      refine aN (SL.of H (sub_nil _)) fun hS => ?_
      refine r_do 16 rfl (by kernel_rfl) rfl rfl ?_
      refine w_append 5 2 (xs := ([] ++ ((rwy s.ways).take i.toNat))) (ys := ((rwy s.ways).drop ((i + 1).toNat))) F H rfl Tryz.underlying26 ty48 rfl rfl rfl rfl ((Rd.drop ((H.rd 2 rfl)) (by omega : (i + 1).toNat ≤ (rwy s.ways).length))) (by intro k_ hk_; exact .inr hk_) (F.t 12 rfl) (F.t 19 rfl) (by simp only [List.length_nil, List.length_append, List.length_cons, List.length_take, List.length_drop]; omega) (by simp only [List.length_nil, List.length_append, List.length_cons, List.length_take, List.length_drop, maxLen]; omega) (fun kb => (fun kb => (fun _ => False) kb ∨ okl kb) kb ∨ okl kb) (fun w' v' h => h) (by rintro k_ (hk_ | hk_); exact .inl hk_; exact .inr hk_) ?_
      clear F H; intro a w v20 F H
      refine aN (SL.of H (sub_nil _)) fun hS => ?_
      obtain ⟨A20, c20, rfl⟩ := (H.row 5 rfl).form
      refine rT 17 F rfl (by kernel_rfl) pq rfl hS (fun w hS => x_nil (F.t 4 rfl)) rfl fun a F => ?_
      refine rT 18 F rfl (by kernel_rfl) pq rfl hS (fun w hS => x_faddr Tryz.underlying29 rfl ty26 (by decide) (F.t 21 rfl) rfl) rfl fun a F => ?_
      refine r_do 19 rfl (by kernel_rfl) rfl rfl ?_
      refine w_store 1 H ty26 rfl (F.t 22 rfl) (F.t 20 rfl) rfl (one1 rfl rfl) (by first | decide | exact Nat.le_of_ble_eq_true rfl) ?_
      clear H; intro w H
      refine aN (SL.of H (sub_nil _)) fun hS => ?_
      refine r_end (by kernel_rfl) ?_; clear hS
      exact hJr0 _ _ _ _ F.bare (H.sub _ (sub_cons (sub_cons (sub_cons (sub_nil _) 5 rfl) 2 rfl) 1 rfl))
theorem rrestart_calls (w0 : World) {X : Asn} {bl : Nat} {s : BagS} (hX : RBagA 29 bl s X) (hok : X.ok w0) (hs : BagOk s) (i : Int) : Calls Tryz.prog 16 #[.pointer (some ⟨bl, 0, none⟩), .int .i64 i] w0 fun e w' => ∃ X', e = .returned (.int .i64 (rstE i)) ∧ RBagA 29 bl (rstS s i) X' ∧ Grew (fun _ => False) (fun _ => False) X w0 w' X' := by
  obtain ⟨Al, cl, okl, rfl⟩ := hX
  refine cow Tryz.func16 rfl Tryz.ntmps16 (Nat.le_of_ble_eq_true rfl) fun a F => ?_
  have H := Hp.ofAll hok.holds
  have hll := (H.rd 2 rfl).le; unfold maxLen at hll
  have hfew := hs.few
  have hwl := rwy_len s.ways
  refine sr fun khK1 hK1 => ?_
  refine la F rfl (x_assign rfl) fun a F => ?_
  refine wn (hK1 _ _ ?_)
  refine wp_seq_k fun khK2 hK2 => ?_
  refine sr fun khK3 hK3 => ?_
  refine la F rfl (x_move (F.t 1 rfl)) fun a F => ?_
  refine la F rfl (x_lss (F.t 5 rfl) rfl) fun a F => ?_
  refine la F rfl (x_move (F.t 6 rfl)) fun a F => ?_
  refine split_bool F 7 rfl (fun hb7 => ?_) (fun hb7 => ?_)
  · have hc7 := hb7; try simp only [bL] at hc7
    refine los F hb7 rfl fun a F => ?_
    refine los F hb7 rfl fun a F => ?_
    refine la F rfl (x_pickT (F.t 7 rfl) hb7 rfl) fun a F => ?_
    refine wn (hK3 _ _ ?_)
    refine wp_cond_true (F.t 10 rfl) ?_
    refine sr fun khK4 hK4 => ?_
    refine la F rfl (x_assign rfl) fun a F => ?_
    refine wn (hK4 _ _ ?_)
    refine wp_ret ?_
    try simp only [Exit.then, Exit.inBlock]
    exact fin_ret F (res1 F rfl rfl) ⟨Asn.all [(1, .blk bl (.cells #[.slice Al (rwy s.ways).length cl, .int .i64 (gi s.eps 0), .int .i64 (gi s.eps 1), .int .i64 (gi s.eps 2), .int .i64 (gi s.eps 3), .int .i64 (gi s.eps 4), .int .i64 (gi s.eps 5), .int .i64 (gi s.eps 6), .int .i64 (gi s.eps 7), .int .i64 s.lost] 29 (0, 0))), (2, .rd_ RwayE Al (rwy s.ways) cl okl)], by rw [(rest_no (s := s) (n := i) (by first | exact in8_neg (by omega) | exact in8_big (by omega))).1] <;> rfl, by rw [(rest_no (s := s) (n := i) (by first | exact in8_neg (by omega) | exact in8_big (by omega))).2.1]; exact ⟨_, _, _, rfl⟩, grew_of (H.sub [(1, .blk bl (.cells #[.slice Al (rwy s.ways).length cl, .int .i64 (gi s.eps 0), .int .i64 (gi s.eps 1), .int .i64 (gi s.eps 2), .int .i64 (gi s.eps 3), .int .i64 (gi s.eps 4), .int .i64 (gi s.eps 5), .int .i64 (gi s.eps 6), .int .i64 (gi s.eps 7), .int .i64 s.lost] 29 (0, 0))), (2, .rd_ RwayE Al (rwy s.ways) cl okl)] (sub_cons (sub_cons (sub_nil _) 2 rfl) 1 rfl)) (rdin_cons (fun k h => h.elim) (rdin_cons (fun k h => .inr (.inl ⟨2, _, rfl, h⟩)) rdin_nil))⟩
  · have hc7 := hb7; try simp only [bL] at hc7
    refine lgs F hb7 rfl (x_move (F.t 1 rfl)) fun a F => ?_
    refine lgs F hb7 rfl (x_geq (F.t 8 rfl) rfl) fun a F => ?_
    refine la F rfl (x_pickF (F.t 7 rfl) hb7 (F.t 9 rfl)) fun a F => ?_
    refine wn (hK3 _ _ ?_)
    refine wp_cond_split (F.t 10 rfl) (fun hc10 => ?_) (fun hc10 => ?_)
    · have hk10_1 := hc10; try simp only [bL] at hc10
      refine sr fun khK5 hK5 => ?_
      refine la F rfl (x_assign rfl) fun a F => ?_
      refine wn (hK5 _ _ ?_)
      refine wp_ret ?_
      try simp only [Exit.then, Exit.inBlock]
      exact fin_ret F (res1 F rfl rfl) ⟨Asn.all [(1, .blk bl (.cells #[.slice Al (rwy s.ways).length cl, .int .i64 (gi s.eps 0), .int .i64 (gi s.eps 1), .int .i64 (gi s.eps 2), .int .i64 (gi s.eps 3), .int .i64 (gi s.eps 4), .int .i64 (gi s.eps 5), .int .i64 (gi s.eps 6), .int .i64 (gi s.eps 7), .int .i64 s.lost] 29 (0, 0))), (2, .rd_ RwayE Al (rwy s.ways) cl okl)], by rw [(rest_no (s := s) (n := i) (by first | exact in8_neg (by omega) | exact in8_big (by omega))).1] <;> rfl, by rw [(rest_no (s := s) (n := i) (by first | exact in8_neg (by omega) | exact in8_big (by omega))).2.1]; exact ⟨_, _, _, rfl⟩, grew_of (H.sub [(1, .blk bl (.cells #[.slice Al (rwy s.ways).length cl, .int .i64 (gi s.eps 0), .int .i64 (gi s.eps 1), .int .i64 (gi s.eps 2), .int .i64 (gi s.eps 3), .int .i64 (gi s.eps 4), .int .i64 (gi s.eps 5), .int .i64 (gi s.eps 6), .int .i64 (gi s.eps 7), .int .i64 s.lost] 29 (0, 0))), (2, .rd_ RwayE Al (rwy s.ways) cl okl)] (sub_cons (sub_cons (sub_nil _) 2 rfl) 1 rfl)) (rdin_cons (fun k h => h.elim) (rdin_cons (fun k h => .inr (.inl ⟨2, _, rfl, h⟩)) rdin_nil))⟩
    · have hk10_2 := hc10; try simp only [bL] at hc10
      refine wp_skip ?_
      refine hK2 _ _ ?_
      refine wp_seq_k fun khK6 hK6 => ?_
      have hJr3 : ∀ a w, Fr 21 a [] → Hp (OwnL [(1, .blk bl (.cells #[.slice Al (rwy s.ways).length cl, .int .i64 (gi s.eps 0), .int .i64 (gi s.eps 1), .int .i64 (gi s.eps 2), .int .i64 (gi s.eps 3), .int .i64 (gi s.eps 4), .int .i64 (gi s.eps 5), .int .i64 (gi s.eps 6), .int .i64 (gi s.eps 7), .int .i64 s.lost] 29 (0, 0))), (2, .rd_ RwayE Al (rwy s.ways) cl okl)]) w0 w [(1, .blk bl (.cells #[.slice Al (rwy s.ways).length cl, .int .i64 (gi (s.eps.set i.toNat (w64I (gi s.eps i + 1))) 0), .int .i64 (gi (s.eps.set i.toNat (w64I (gi s.eps i + 1))) 1), .int .i64 (gi (s.eps.set i.toNat (w64I (gi s.eps i + 1))) 2), .int .i64 (gi (s.eps.set i.toNat (w64I (gi s.eps i + 1))) 3), .int .i64 (gi (s.eps.set i.toNat (w64I (gi s.eps i + 1))) 4), .int .i64 (gi (s.eps.set i.toNat (w64I (gi s.eps i + 1))) 5), .int .i64 (gi (s.eps.set i.toNat (w64I (gi s.eps i + 1))) 6), .int .i64 (gi (s.eps.set i.toNat (w64I (gi s.eps i + 1))) 7), .int .i64 s.lost] 29 (0, 0))), (2, .rd_ RwayE Al (rwy s.ways) cl okl)] → khK6 a w := by
        intro a w  F H
        refine hK6 a w ?_
        refine sr fun khK7 hK7 => ?_
        refine la F rfl (x_assign rfl) fun a F => ?_
        refine wn (hK7 _ _ ?_)
        refine wp_ret ?_
        try simp only [Exit.then, Exit.inBlock]
        have hyes := rest_yes (s := s) (n := i) (in8_yes (by omega) (by omega))
        exact fin_ret F (res1 F rfl rfl) ⟨Asn.all [(1, .blk bl (.cells #[.slice Al (rwy s.ways).length cl, .int .i64 (gi (s.eps.set i.toNat (w64I (gi s.eps i + 1))) 0), .int .i64 (gi (s.eps.set i.toNat (w64I (gi s.eps i + 1))) 1), .int .i64 (gi (s.eps.set i.toNat (w64I (gi s.eps i + 1))) 2), .int .i64 (gi (s.eps.set i.toNat (w64I (gi s.eps i + 1))) 3), .int .i64 (gi (s.eps.set i.toNat (w64I (gi s.eps i + 1))) 4), .int .i64 (gi (s.eps.set i.toNat (w64I (gi s.eps i + 1))) 5), .int .i64 (gi (s.eps.set i.toNat (w64I (gi s.eps i + 1))) 6), .int .i64 (gi (s.eps.set i.toNat (w64I (gi s.eps i + 1))) 7), .int .i64 s.lost] 29 (0, 0))), (2, .rd_ RwayE Al (rwy s.ways) cl okl)], by rw [hyes.1] <;> rfl, by rw [hyes.2.1]; exact ⟨_, _, _, rfl⟩, grew_of (H.sub [(1, .blk bl (.cells #[.slice Al (rwy s.ways).length cl, .int .i64 (gi (s.eps.set i.toNat (w64I (gi s.eps i + 1))) 0), .int .i64 (gi (s.eps.set i.toNat (w64I (gi s.eps i + 1))) 1), .int .i64 (gi (s.eps.set i.toNat (w64I (gi s.eps i + 1))) 2), .int .i64 (gi (s.eps.set i.toNat (w64I (gi s.eps i + 1))) 3), .int .i64 (gi (s.eps.set i.toNat (w64I (gi s.eps i + 1))) 4), .int .i64 (gi (s.eps.set i.toNat (w64I (gi s.eps i + 1))) 5), .int .i64 (gi (s.eps.set i.toNat (w64I (gi s.eps i + 1))) 6), .int .i64 (gi (s.eps.set i.toNat (w64I (gi s.eps i + 1))) 7), .int .i64 s.lost] 29 (0, 0))), (2, .rd_ RwayE Al (rwy s.ways) cl okl)] (sub_cons (sub_cons (sub_nil _) 2 rfl) 1 rfl)) (rdin_cons (fun k h => h.elim) (rdin_cons (fun k h => .inr (.inl ⟨2, _, rfl, h⟩)) rdin_nil))⟩
      refine r_start [] (by kernel_rfl) H fun H => ?_
      have hS : SL [] _ := SL.of H (sub_nil _)
      refine rT 0 F rfl (by kernel_rfl) pq rfl hS (fun w hS => x_move (F.t 0 rfl)) rfl fun a F => ?_
      refine rT 1 F rfl (by kernel_rfl) pq rfl hS (fun w hS => x_move (F.t 1 rfl)) rfl fun a F => ?_
      refine rT 2 F rfl (by kernel_rfl) pq rfl hS (fun w hS => x_nil (F.t 11 rfl)) rfl fun a F => ?_
      refine rT 3 F rfl (by kernel_rfl) pq rfl hS (fun w hS => x_faddr Tryz.underlying29 rfl ty27 (by decide) (F.t 13 rfl) rfl) rfl fun a F => ?_
      refine rT 4 F rfl (by kernel_rfl) pq rfl hS (fun w hS => x_iaddr_arr Tryz.underlying27 ty3 (F.t 14 rfl) (F.t 12 rfl) (by omega) (by omega)) rfl fun a F => ?_
      refine rT 7 F rfl (by kernel_rfl) pq rfl hS (fun w hS => x_nil (F.t 11 rfl)) rfl fun a F => ?_
      refine rT 8 F rfl (by kernel_rfl) pq rfl hS (fun w hS => x_faddr Tryz.underlying29 rfl ty27 (by decide) (F.t 18 rfl) rfl) rfl fun a F => ?_
      refine r_do 5 rfl (by kernel_rfl) rfl rfl ?_
      refine w_at F (x_load1 ty3 (F.t 15 rfl) (blk_cell (H.at 1 rfl) _ (eps_at (by omega) (by omega)))) rfl rfl ?_
      clear F; intro a F
      refine aN (SL.of H (sub_nil _)) fun hS => ?_
      refine rT 6 F rfl (by kernel_rfl) pq rfl hS (fun w hS => x_add (F.t 16 rfl) rfl rfl) rfl fun a F => ?_
      refine rT 9 F rfl (by kernel_rfl) pq rfl hS (fun w hS => x_iaddr_arr Tryz.underlying27 ty3 (F.t 19 rfl) (F.t 12 rfl) (by omega) (by omega)) rfl fun a F => ?_
      refine r_do 10 rfl (by kernel_rfl) rfl rfl ?_
      refine w_store 1 H ty3 rfl (F.t 20 rfl) (F.t 17 rfl) rfl (one1 rfl rfl) (by show 1 + i.toNat * 1 + 1 ≤ 10; omega) ?_
      clear H; intro w H
      refine aN (SL.of H (sub_nil _)) fun hS => ?_
      have H : Hp _ w0 w ((1, .blk bl (.cells (spl #[.slice Al (rwy s.ways).length cl, .int .i64 (gi s.eps 0), .int .i64 (gi s.eps 1), .int .i64 (gi s.eps 2), .int .i64 (gi s.eps 3), .int .i64 (gi s.eps 4), .int .i64 (gi s.eps 5), .int .i64 (gi s.eps 6), .int .i64 (gi s.eps 7), .int .i64 s.lost] (1 + i.toNat * 1) (Value.int .i64 (w64I (gi s.eps i + 1))).cells) 29 (0, 0))) :: _) := H
      rw [eps_set hs.eps (by omega) (by omega)] at H
      refine r_end (by kernel_rfl) ?_; clear hS
      exact hJr3 _ _  F.bare (H.sub _ (sub_cons (sub_cons (sub_nil _) 2 rfl) 1 rfl))
theorem rlose_calls (w0 : World) {X : Asn} {bl : Nat} {s : BagS} (hX : RBagA 29 bl s X) (hok : X.ok w0) (hs : BagOk s) (i : Int) : Calls Tryz.prog 14 #[.pointer (some ⟨bl, 0, none⟩), .int .i64 i] w0 fun e w' => ∃ X', e = .returned (.int .i64 (lookE s i)) ∧ RBagA 29 bl (loseS s i) X' ∧ Grew (fun _ => False) (fun _ => False) X w0 w' X' := by
  obtain ⟨Al, cl, okl, rfl⟩ := hX
  refine cow Tryz.func14 rfl Tryz.ntmps14 (Nat.le_of_ble_eq_true rfl) fun a F => ?_
  have H := Hp.ofAll hok.holds
  have hll := (H.rd 2 rfl).le; unfold maxLen at hll
  have hfew := hs.few
  have hwl := rwy_len s.ways
  refine sr fun khK1 hK1 => ?_
  refine la F rfl (x_assign rfl) fun a F => ?_
  refine wn (hK1 _ _ ?_)
  refine sr fun khK2 hK2 => ?_
  refine la F rfl (x_move (F.t 0 rfl)) fun a F => ?_
  refine la F rfl (x_move (F.t 1 rfl)) fun a F => ?_
  refine lp rfl ?_
  refine w_call F (x_enter Tryz.func28 (by kernel_rfl) rfl (by simp only [bM, F.t 6 rfl, F.t 7 rfl] <;> rfl)) (ris_calls _ ⟨_, _, _, rfl⟩ (H.sub [(1, .blk bl (.cells #[.slice Al (rwy s.ways).length cl, .int .i64 (gi s.eps 0), .int .i64 (gi s.eps 1), .int .i64 (gi s.eps 2), .int .i64 (gi s.eps 3), .int .i64 (gi s.eps 4), .int .i64 (gi s.eps 5), .int .i64 (gi s.eps 6), .int .i64 (gi s.eps 7), .int .i64 s.lost] 29 (0, 0))), (2, .rd_ RwayE Al (rwy s.ways) cl okl)] (sub_cons (sub_cons (sub_nil _) 2 rfl) 1 rfl)).okAll hs i) rfl rfl ?_
  rintro _ w ⟨rfl, hm_⟩; refine ⟨_, rfl, ?_⟩; clear F; intro a F; have H := H.same hm_
  refine la F rfl (x_assign (F.t 8 rfl)) fun a F => ?_
  refine wn (hK2 _ _ ?_)
  refine wp_seq_k fun khK3 hK3 => ?_
  refine sr fun khK4 hK4 => ?_
  refine la F rfl (x_move (F.t 5 rfl)) fun a F => ?_
  refine la F rfl (x_not (F.t 9 rfl)) fun a F => ?_
  refine wn (hK4 _ _ ?_)
  refine wp_cond_split (F.t 10 rfl) (fun hc10 => ?_) (fun hc10 => ?_)
  · have hk10_1 := hc10; try simp only [bL] at hc10
    have hno := look_no (s := s) (i := i) (by simpa using hc10)
    refine sr fun khK5 hK5 => ?_
    refine la F rfl (x_assign rfl) fun a F => ?_
    refine wn (hK5 _ _ ?_)
    refine wp_ret ?_
    try simp only [Exit.then, Exit.inBlock]
    exact fin_ret F (res1 F rfl rfl) ⟨Asn.all [(1, .blk bl (.cells #[.slice Al (rwy s.ways).length cl, .int .i64 (gi s.eps 0), .int .i64 (gi s.eps 1), .int .i64 (gi s.eps 2), .int .i64 (gi s.eps 3), .int .i64 (gi s.eps 4), .int .i64 (gi s.eps 5), .int .i64 (gi s.eps 6), .int .i64 (gi s.eps 7), .int .i64 s.lost] 29 (0, 0))), (2, .rd_ RwayE Al (rwy s.ways) cl okl)], by rw [hno.2.1] <;> rfl, by rw [hno.2.2.2.2.2.2]; exact ⟨_, _, _, rfl⟩, grew_of (H.sub [(1, .blk bl (.cells #[.slice Al (rwy s.ways).length cl, .int .i64 (gi s.eps 0), .int .i64 (gi s.eps 1), .int .i64 (gi s.eps 2), .int .i64 (gi s.eps 3), .int .i64 (gi s.eps 4), .int .i64 (gi s.eps 5), .int .i64 (gi s.eps 6), .int .i64 (gi s.eps 7), .int .i64 s.lost] 29 (0, 0))), (2, .rd_ RwayE Al (rwy s.ways) cl okl)] (sub_cons (sub_cons (sub_nil _) 2 rfl) 1 rfl)) (rdin_cons (fun k h => h.elim) (rdin_cons (fun k h => .inr (.inl ⟨2, _, rfl, h⟩)) rdin_nil))⟩
  · have hk10_2 := hc10; try simp only [bL] at hc10
    have hyes : isW s i = true := by simpa using hc10
    have hyr := look_yes hyes
    have hio := isW_parts hyes
    have H := H.bundle (L := [(1, .blk bl (.cells #[.slice Al (rwy s.ways).length cl, .int .i64 (gi s.eps 0), .int .i64 (gi s.eps 1), .int .i64 (gi s.eps 2), .int .i64 (gi s.eps 3), .int .i64 (gi s.eps 4), .int .i64 (gi s.eps 5), .int .i64 (gi s.eps 6), .int .i64 (gi s.eps 7), .int .i64 s.lost] 29 (0, 0))), (2, .rd_ RwayE Al (rwy s.ways) cl okl)]) (N := []) 100 (sub_cons (sub_cons (sub_nil _) 2 rfl) 1 rfl) (sub_nil _) (apart_cons rfl (apart_cons rfl (apart_nil _)))
    refine wp_skip ?_
    refine hK3 _ _ ?_
    refine sr fun khK6 hK6 => ?_
    refine la F rfl (x_move (F.t 0 rfl)) fun a F => ?_
    refine la F rfl (x_move (F.t 1 rfl)) fun a F => ?_
    refine lp rfl ?_
    refine w_call F (x_enter Tryz.func29 (by kernel_rfl) rfl (by simp only [bM, F.t 11 rfl, F.t 12 rfl] <;> rfl)) (rgone_calls _ ⟨_, _, _, rfl⟩ (H.okX 100 rfl) hs hyes) rfl rfl ?_
    rintro _ w ⟨X2, rfl, hX2, hg_⟩; refine ⟨_, rfl, ?_⟩; clear F; intro a F; have hsz_ := H.mods.size; have H := H.grew 100 rfl hg_ (fun k hk => hk.elim)
    obtain ⟨Al2, cl2, okl2, rfl⟩ := hX2
    have H := H.unbundle (L := [(1, .blk bl (.cells #[.slice Al2 (rwy (takeS s i).ways).length cl2, .int .i64 (gi (takeS s i).eps 0), .int .i64 (gi (takeS s i).eps 1), .int .i64 (gi (takeS s i).eps 2), .int .i64 (gi (takeS s i).eps 3), .int .i64 (gi (takeS s i).eps 4), .int .i64 (gi (takeS s i).eps 5), .int .i64 (gi (takeS s i).eps 6), .int .i64 (gi (takeS s i).eps 7), .int .i64 ((takeS s i).lost)] 29 (0, 0))), (2, .rd_ RwayE Al2 (rwy (takeS s i).ways) cl2 okl2)]) (N := []) 100 rfl (sub_nil _) rfl
    have hll := (H.rd 2 rfl).le; unfold maxLen at hll
    refine wn (hK6 _ _ ?_)
    refine sr fun khK7 hK7 => ?_
    refine la F rfl (x_move (F.t 0 rfl)) fun a F => ?_
    refine la F rfl (x_nil (F.t 14 rfl)) fun a F => ?_
    refine la F rfl (x_faddr Tryz.underlying29 rfl ty3 (by decide) (F.t 15 rfl) rfl) fun a F => ?_
    refine la F rfl (x_load1 ty3 (F.t 16 rfl) (blk_cell (H.at 1 rfl) 9 rfl)) fun a F => ?_
    refine la F rfl (x_add (F.t 17 rfl) rfl rfl) fun a F => ?_
    refine la F rfl (x_nil (F.t 14 rfl)) fun a F => ?_
    refine la F rfl (x_faddr Tryz.underlying29 rfl ty3 (by decide) (F.t 19 rfl) rfl) fun a F => ?_
    refine lp rfl ?_
    refine w_store 1 H ty3 rfl (F.t 20 rfl) (F.t 18 rfl) rfl (one1 rfl rfl) (by first | decide | exact Nat.le_of_ble_eq_true rfl) ?_
    clear H; intro w H
    refine wn (hK7 _ _ ?_)
    refine sr fun khK8 hK8 => ?_
    refine la F rfl (x_assign rfl) fun a F => ?_
    refine wn (hK8 _ _ ?_)
    refine wp_ret ?_
    try simp only [Exit.then, Exit.inBlock]
    exact fin_ret F (res1 F rfl rfl) ⟨Asn.all [(1, .blk bl (.cells #[.slice Al2 (rwy (takeS s i).ways).length cl2, .int .i64 (gi (takeS s i).eps 0), .int .i64 (gi (takeS s i).eps 1), .int .i64 (gi (takeS s i).eps 2), .int .i64 (gi (takeS s i).eps 3), .int .i64 (gi (takeS s i).eps 4), .int .i64 (gi (takeS s i).eps 5), .int .i64 (gi (takeS s i).eps 6), .int .i64 (gi (takeS s i).eps 7), .int .i64 (w64I ((takeS s i).lost + 1))] 29 (0, 0))), (2, .rd_ RwayE Al2 (rwy (takeS s i).ways) cl2 okl2)], by rw [hyr.2.1] <;> rfl, by rw [hyr.2.2.2.2.2.2]; exact ⟨_, _, _, rfl⟩, grew_of (H.sub [(1, .blk bl (.cells #[.slice Al2 (rwy (takeS s i).ways).length cl2, .int .i64 (gi (takeS s i).eps 0), .int .i64 (gi (takeS s i).eps 1), .int .i64 (gi (takeS s i).eps 2), .int .i64 (gi (takeS s i).eps 3), .int .i64 (gi (takeS s i).eps 4), .int .i64 (gi (takeS s i).eps 5), .int .i64 (gi (takeS s i).eps 6), .int .i64 (gi (takeS s i).eps 7), .int .i64 (w64I ((takeS s i).lost + 1))] 29 (0, 0))), (2, .rd_ RwayE Al2 (rwy (takeS s i).ways) cl2 okl2)] (sub_cons (sub_cons (sub_nil _) 2 rfl) 1 rfl)) (rdin_cons (fun k h => h.elim) (rdin_cons (fun k h => by rcases hg_.rd k ⟨2, _, rfl, h⟩ with h | h | h | h; exact .inl h; exact .inr (.inl h); exact h.elim; exact .inr (.inr (.inr (Nat.le_trans hsz_ h)))) rdin_nil))⟩
theorem rsend_calls (w0 : World) {X : Asn} {bl : Nat} {s : BagS} (hX : RBagA 29 bl s X) (hok : X.ok w0) (hs : BagOk s) {m : MessageD} {okm0 : Nat → Prop} {Am0 : Option Addr} {cm0 : Nat} (hrm0 : Rd (Rep.int .i64) w0 okm0 Am0 m.nodes cm0) {okm1 : Nat → Prop} {Am1 : Option Addr} {cm1 : Nat} (hrm1 : Rd ChgE w0 okm1 Am1 m.changes cm1) (hb : MessageB m) (hinm0 : ∀ k, okm0 k → k < w0.heap.size) (hapm0 : ∀ k, okm0 k → ¬ X.own k) (hinm1 : ∀ k, okm1 k → k < w0.heap.size) (hapm1 : ∀ k, okm1 k → ¬ X.own k) : Calls Tryz.prog 7 #[.pointer (some ⟨bl, 0, none⟩), .agg #[.int .i64 m.kind, .int .i64 m.src, .int .i64 m.dst, .int .i64 m.tx, .slice Am0 m.nodes.length cm0, .slice Am1 m.changes.length cm1]] w0 fun e w' => ∃ X', e = .returned (.int .i64 (sendE s m)) ∧ RBagA 29 bl (sendS s m) X' ∧ Grew (fun _ => False) (fun kb => okm0 kb ∨ okm1 kb) X w0 w' X' := by
  obtain ⟨Al, cl, okl, rfl⟩ := hX
  refine cow Tryz.func7 rfl Tryz.ntmps7 (Nat.le_of_ble_eq_true rfl) fun a F => ?_
  have H := Hp.ofAll hok.holds
  have hll := (H.rd 2 rfl).le; unfold maxLen at hll
  have hfew := hs.few
  have hwl := rwy_len s.ways
  have H := H.readable 910 hrm0 hinm0 (fun j Y hY k hk hk2 => hapm0 k hk2 ⟨j, Y, hY, hk⟩)
  have hlem0 := hrm0.le; unfold maxLen at hlem0
  have H := H.readable 911 hrm1 hinm1 (fun j Y hY k hk hk2 => by rcases Sx.get_one hY with ⟨_, rfl⟩ | ⟨_, hY⟩; exact hk; exact hapm1 k hk2 ⟨j, Y, hY, hk⟩)
  have hlem1 := hrm1.le; unfold maxLen at hlem1
  refine sr fun khK1 hK1 => ?_
  refine lp rfl ?_
  refine w_box 3 F H rfl (F.t 1 rfl) ?_
  clear F H; intro a w b3 F H
  refine la F rfl (x_assign rfl) fun a F => ?_
  refine wn (hK1 _ _ ?_)
  refine sr fun khK2 hK2 => ?_
  refine la F rfl (x_loadn ty34 (F.t 3 rfl) rfl (blk_whole (H.at 3 rfl))) fun a F => ?_
  refine lp rfl ?_
  refine w_call F (x_enter Tryz.func25 (by kernel_rfl) rfl (by simp only [bM, F.t 6 rfl] <;> rfl)) (r16right_calls (m := m) _ ((H.rd 910 rfl)) ((H.rd 911 rfl)) hb) rfl rfl ?_
  rintro _ w ⟨rfl, hm_⟩; refine ⟨_, rfl, ?_⟩; clear F; intro a F; have H := H.same hm_
  refine la F rfl (x_assign (F.t 7 rfl)) fun a F => ?_
  refine wn (hK2 _ _ ?_)
  refine wp_seq_k fun khK3 hK3 => ?_
  refine sr fun khK4 hK4 => ?_
  refine la F rfl (x_move (F.t 5 rfl)) fun a F => ?_
  refine la F rfl (x_not (F.t 8 rfl)) fun a F => ?_
  refine wn (hK4 _ _ ?_)
  refine wp_cond_split (F.t 9 rfl) (fun hc9 => ?_) (fun hc9 => ?_)
  · have hk9_1 := hc9; try simp only [bL] at hc9
    have hr0 : rightM m = false := by simpa using hc9
    refine sr fun khK5 hK5 => ?_
    refine la F rfl (x_assign rfl) fun a F => ?_
    refine wn (hK5 _ _ ?_)
    refine wp_ret ?_
    try simp only [Exit.then, Exit.inBlock]
    exact fin_ret F (res1 F rfl rfl) ⟨Asn.all [(1, .blk bl (.cells #[.slice Al (rwy s.ways).length cl, .int .i64 (gi s.eps 0), .int .i64 (gi s.eps 1), .int .i64 (gi s.eps 2), .int .i64 (gi s.eps 3), .int .i64 (gi s.eps 4), .int .i64 (gi s.eps 5), .int .i64 (gi s.eps 6), .int .i64 (gi s.eps 7), .int .i64 s.lost] 29 (0, 0))), (2, .rd_ RwayE Al (rwy s.ways) cl okl)], by rw [(send_no (s := s) hr0).1] <;> rfl, by rw [(send_no (s := s) hr0).2]; exact ⟨_, _, _, rfl⟩, grew_of (H.sub [(1, .blk bl (.cells #[.slice Al (rwy s.ways).length cl, .int .i64 (gi s.eps 0), .int .i64 (gi s.eps 1), .int .i64 (gi s.eps 2), .int .i64 (gi s.eps 3), .int .i64 (gi s.eps 4), .int .i64 (gi s.eps 5), .int .i64 (gi s.eps 6), .int .i64 (gi s.eps 7), .int .i64 s.lost] 29 (0, 0))), (2, .rd_ RwayE Al (rwy s.ways) cl okl)] (sub_cons (sub_cons (sub_nil _) 2 rfl) 1 rfl)) (rdin_cons (fun k h => h.elim) (rdin_cons (fun k h => .inr (.inl ⟨2, _, rfl, h⟩)) rdin_nil))⟩
  · have hk9_2 := hc9; try simp only [bL] at hc9
    have hr0 : rightM m = true := by simpa using hc9
    refine wp_skip ?_
    refine hK3 _ _ ?_
    refine wp_seq_k fun khK6 hK6 => ?_
    refine r_start [(3, .blk b3 (.cells #[.int .i64 m.kind, .int .i64 m.src, .int .i64 m.dst, .int .i64 m.tx, .slice Am0 m.nodes.length cm0, .slice Am1 m.changes.length cm1] 34 (0, 0)))] (by kernel_rfl) H fun H => ?_
    have hS : SL [(3, .blk b3 (.cells #[.int .i64 m.kind, .int .i64 m.src, .int .i64 m.dst, .int .i64 m.tx, .slice Am0 m.nodes.length cm0, .slice Am1 m.changes.length cm1] 34 (0, 0)))] _ := SL.of H (sub_cons (sub_nil _) 3 rfl)
    refine rT 0 F rfl (by kernel_rfl) pq rfl hS (fun w hS => x_move (F.t 0 rfl)) rfl fun a F => ?_
    refine rT 1 F rfl (by kernel_rfl) pq rfl hS (fun w hS => x_loadn ty34 (F.t 3 rfl) rfl (blk_whole (SL.at_ hS 3 rfl))) rfl fun a F => ?_
    refine rT 2 F rfl (by kernel_rfl) pq rfl hS (fun w hS => x_move (F.t 0 rfl)) rfl fun a F => ?_
    refine rT 3 F rfl (by kernel_rfl) pq rfl hS (fun w hS => x_faddr Tryz.underlying34 rfl ty3 (by decide) (F.t 3 rfl) rfl) rfl fun a F => ?_
    refine rT 4 F rfl (by kernel_rfl) pq rfl hS (fun w hS => x_load1 ty3 (F.t 13 rfl) (blk_cell (SL.at_ hS 3 rfl) 2 rfl)) rfl fun a F => ?_
    refine rT 5 F rfl (by kernel_rfl) pq rfl hS (fun w hS => x_nil (F.t 12 rfl)) rfl fun a F => ?_
    refine rT 6 F rfl (by kernel_rfl) pq rfl hS (fun w hS => x_faddr Tryz.underlying29 rfl ty27 (by decide) (F.t 15 rfl) rfl) rfl fun a F => ?_
    refine rT 7 F rfl (by kernel_rfl) pq rfl hS (fun w hS => x_iaddr_arr Tryz.underlying27 ty3 (F.t 16 rfl) (F.t 14 rfl) (by have := (rightM_parts hr0).dst; omega) (by have := (rightM_parts hr0).dst; show _ < (8 : Int); omega)) rfl fun a F => ?_
    refine r_do 8 rfl (by kernel_rfl) rfl rfl ?_
    refine w_at F (x_load1 ty3 (F.t 17 rfl) (blk_cell (H.at 1 rfl) _ (eps_at (rightM_parts hr0).dst.1 (rightM_parts hr0).dst.2))) rfl rfl ?_
    clear F; intro a F
    refine aN (SL.of H (sub_cons (sub_nil _) 3 rfl)) fun hS => ?_
    obtain ⟨ge, hge⟩ : ∃ ge, gi s.eps m.dst = ge := ⟨_, rfl⟩
    rw [hge] at F
    refine rT 9 F rfl (by kernel_rfl) pq rfl hS (fun w hS => x_buildS (cells := #[.int .i64 m.kind, .int .i64 m.src, .int .i64 m.dst, .int .i64 m.tx, .slice Am0 m.nodes.length cm0, .slice Am1 m.changes.length cm1, .int .i64 ge]) (places := #[(0, 6), (6, 1)]) Tryz.underlying48 ty48 (by kernel_rfl) (by simp only [bM, F.t 11 rfl, F.t 18 rfl] <;> rfl) (by simp [Instr.fill, Value.cells])) rfl fun a F => ?_
    have H := H.bundle (L := [(1, .blk bl (.cells #[.slice Al (rwy s.ways).length cl, .int .i64 (gi s.eps 0), .int .i64 (gi s.eps 1), .int .i64 (gi s.eps 2), .int .i64 (gi s.eps 3), .int .i64 (gi s.eps 4), .int .i64 (gi s.eps 5), .int .i64 (gi s.eps 6), .int .i64 (gi s.eps 7), .int .i64 s.lost] 29 (0, 0))), (2, .rd_ RwayE Al (rwy s.ways) cl okl)]) (N := [(910, .rd_ (.int .i64) Am0 m.nodes cm0 okm0), (911, .rd_ ChgE Am1 m.changes cm1 okm1), (3, .blk b3 (.cells #[.int .i64 m.kind, .int .i64 m.src, .int .i64 m.dst, .int .i64 m.tx, .slice Am0 m.nodes.length cm0, .slice Am1 m.changes.length cm1] 34 (0, 0)))]) 100 (sub_cons (sub_cons (sub_nil _) 2 rfl) 1 rfl) (sub_cons (sub_cons (sub_cons (sub_nil _) 3 rfl) 911 rfl) 910 rfl) (apart_cons rfl (apart_cons rfl (apart_nil _)))
    refine r_do 10 rfl (by kernel_rfl) rfl rfl ?_
    refine w_call F (x_enter Tryz.func26 (by kernel_rfl) rfl (by simp only [bM, F.t 10 rfl, F.t 19 rfl] <;> rfl)) (rput_calls (p := ⟨m, ge⟩) _ ⟨_, _, _, rfl⟩ (H.okX 100 rfl) hs ((H.rd 910 rfl)) ((H.rd 911 rfl)) (fun k h => H.inb 910 _ rfl k (.inr h)) (fun k h hx => H.sep 100 910 _ _ (by decide) rfl rfl k hx (.inr h)) (fun k h => H.inb 911 _ rfl k (.inr h)) (fun k h hx => H.sep 100 911 _ _ (by decide) rfl rfl k hx (.inr h))) rfl rfl ?_
    rintro _ w ⟨X2, rfl, hX2, hg_⟩; refine ⟨_, rfl, ?_⟩; clear F; intro a F; have hsz_ := H.mods.size; have H := H.grew 100 rfl hg_ (fun k hk => hk.elim (fun h => ⟨910, _, rfl, h⟩) (fun h => ⟨911, _, rfl, h⟩))
    refine aN (SL.of H (sub_cons (sub_nil _) 3 rfl)) fun hS => ?_
    refine rT 11 F rfl (by kernel_rfl) pq rfl hS (fun w hS => x_assign (F.t 20 rfl)) rfl fun a F => ?_
    refine r_end (by kernel_rfl) ?_; clear hS
    refine hK6 _ _ ?_
    refine wp_ret ?_
    try simp only [Exit.then, Exit.inBlock]
    subst hge
    exact fin_ret F (res1 F rfl rfl) ⟨X2, by rw [(send_yes (s := s) hr0).1] <;> rfl, by rw [(send_yes (s := s) hr0).2]; exact hX2, grew_lab H 100 rfl (fun k hk => by rcases hg_.rd k hk with h | h | h | h; exact .inl h; exact .inr (.inl h); exact .inr (.inr (.inl h)); exact .inr (.inr (.inr (Nat.le_trans hsz_ h))))⟩
theorem rtwice_calls (w0 : World) {X : Asn} {bl : Nat} {s : BagS} (hX : RBagA 29 bl s X) (hok : X.ok w0) (hs : BagOk s) (i : Int) : Calls Tryz.prog 12 #[.pointer (some ⟨bl, 0, none⟩), .int .i64 i] w0 fun e w' => ∃ X', e = .returned (.int .i64 (twiceE s i)) ∧ RBagA 29 bl (twiceS s i) X' ∧ Grew (fun _ => False) (fun _ => False) X w0 w' X' := by
  obtain ⟨Al, cl, okl, rfl⟩ := hX
  refine cow Tryz.func12 rfl Tryz.ntmps12 (Nat.le_of_ble_eq_true rfl) fun a F => ?_
  have H := Hp.ofAll hok.holds
  have hll := (H.rd 2 rfl).le; unfold maxLen at hll
  have hfew := hs.few
  have hwl := rwy_len s.ways
  refine sr fun khK1 hK1 => ?_
  refine la F rfl (x_assign rfl) fun a F => ?_
  refine wn (hK1 _ _ ?_)
  refine sr fun khK2 hK2 => ?_
  refine la F rfl (x_move (F.t 0 rfl)) fun a F => ?_
  refine la F rfl (x_move (F.t 1 rfl)) fun a F => ?_
  refine lp rfl ?_
  refine w_call F (x_enter Tryz.func28 (by kernel_rfl) rfl (by simp only [bM, F.t 6 rfl, F.t 7 rfl] <;> rfl)) (ris_calls _ ⟨_, _, _, rfl⟩ (H.sub [(1, .blk bl (.cells #[.slice Al (rwy s.ways).length cl, .int .i64 (gi s.eps 0), .int .i64 (gi s.eps 1), .int .i64 (gi s.eps 2), .int .i64 (gi s.eps 3), .int .i64 (gi s.eps 4), .int .i64 (gi s.eps 5), .int .i64 (gi s.eps 6), .int .i64 (gi s.eps 7), .int .i64 s.lost] 29 (0, 0))), (2, .rd_ RwayE Al (rwy s.ways) cl okl)] (sub_cons (sub_cons (sub_nil _) 2 rfl) 1 rfl)).okAll hs i) rfl rfl ?_
  rintro _ w ⟨rfl, hm_⟩; refine ⟨_, rfl, ?_⟩; clear F; intro a F; have H := H.same hm_
  refine la F rfl (x_assign (F.t 8 rfl)) fun a F => ?_
  refine wn (hK2 _ _ ?_)
  refine wp_seq_k fun khK3 hK3 => ?_
  refine sr fun khK4 hK4 => ?_
  refine la F rfl (x_move (F.t 5 rfl)) fun a F => ?_
  refine la F rfl (x_not (F.t 9 rfl)) fun a F => ?_
  refine wn (hK4 _ _ ?_)
  refine wp_cond_split (F.t 10 rfl) (fun hc10 => ?_) (fun hc10 => ?_)
  · have hk10_1 := hc10; try simp only [bL] at hc10
    have hno := look_no (s := s) (i := i) (by simpa using hc10)
    refine sr fun khK5 hK5 => ?_
    refine la F rfl (x_assign rfl) fun a F => ?_
    refine wn (hK5 _ _ ?_)
    refine wp_ret ?_
    try simp only [Exit.then, Exit.inBlock]
    exact fin_ret F (res1 F rfl rfl) ⟨Asn.all [(1, .blk bl (.cells #[.slice Al (rwy s.ways).length cl, .int .i64 (gi s.eps 0), .int .i64 (gi s.eps 1), .int .i64 (gi s.eps 2), .int .i64 (gi s.eps 3), .int .i64 (gi s.eps 4), .int .i64 (gi s.eps 5), .int .i64 (gi s.eps 6), .int .i64 (gi s.eps 7), .int .i64 s.lost] 29 (0, 0))), (2, .rd_ RwayE Al (rwy s.ways) cl okl)], by rw [hno.2.2.2.2.2.1] <;> rfl, by rw [hno.2.2.2.2.1]; exact ⟨_, _, _, rfl⟩, grew_of (H.sub [(1, .blk bl (.cells #[.slice Al (rwy s.ways).length cl, .int .i64 (gi s.eps 0), .int .i64 (gi s.eps 1), .int .i64 (gi s.eps 2), .int .i64 (gi s.eps 3), .int .i64 (gi s.eps 4), .int .i64 (gi s.eps 5), .int .i64 (gi s.eps 6), .int .i64 (gi s.eps 7), .int .i64 s.lost] 29 (0, 0))), (2, .rd_ RwayE Al (rwy s.ways) cl okl)] (sub_cons (sub_cons (sub_nil _) 2 rfl) 1 rfl)) (rdin_cons (fun k h => h.elim) (rdin_cons (fun k h => .inr (.inl ⟨2, _, rfl, h⟩)) rdin_nil))⟩
  · have hk10_2 := hc10; try simp only [bL] at hc10
    have hyes : isW s i = true := by simpa using hc10
    have hyr := look_yes hyes
    have hio := isW_parts hyes
    refine wp_skip ?_
    refine hK3 _ _ ?_
    refine sr fun khK6 hK6 => ?_
    refine la F rfl (x_move (F.t 0 rfl)) fun a F => ?_
    refine la F rfl (x_move (F.t 0 rfl)) fun a F => ?_
    refine la F rfl (x_nil (F.t 12 rfl)) fun a F => ?_
    refine la F rfl (x_faddr Tryz.underlying29 rfl ty26 (by decide) (F.t 13 rfl) rfl) fun a F => ?_
    refine la F rfl (x_load1 ty26 (F.t 14 rfl) (blk_cell (H.at 1 rfl) 0 rfl)) fun a F => ?_
    obtain ⟨fA1_0, fc1_0, fA1_1, fc1_1, hfr1_0, hfr1_1, hf1_0, hf1_1, hf1_2, hf1_3, hf1_4, hf1_5, hf1_6, hfw1⟩ := rd_rway ((H.rd 2 rfl)) (grway_some (xs := (rwy s.ways)) (i := i) hio.1 (by rw [hwl]; exact hio.2))
    have H := H.subrd 2 rfl 1004 hfr1_0 (fun _ h => h)
    have H := H.subrd 2 rfl 1005 hfr1_1 (fun _ h => h)
    have H := H.subcels 2 rfl 1499 hfw1 (Rd.inok ((H.rd 2 rfl)) (by omega) _)
    have H := H.subcel 2 rfl 1500 hf1_0 (Rd.inok ((H.rd 2 rfl)) (by omega) _)
    have H := H.subcel 2 rfl 1501 hf1_1 (Rd.inok ((H.rd 2 rfl)) (by omega) _)
    have H := H.subcel 2 rfl 1502 hf1_2 (Rd.inok ((H.rd 2 rfl)) (by omega) _)
    have H := H.subcel 2 rfl 1503 hf1_3 (Rd.inok ((H.rd 2 rfl)) (by omega) _)
    have H := H.subcel 2 rfl 1504 hf1_4 (Rd.inok ((H.rd 2 rfl)) (by omega) _)
    have H := H.subcel 2 rfl 1505 hf1_5 (Rd.inok ((H.rd 2 rfl)) (by omega) _)
    have H := H.subcel 2 rfl 1506 hf1_6 (Rd.inok ((H.rd 2 rfl)) (by omega) _)
    refine la F rfl (x_move (F.t 1 rfl)) fun a F => ?_
    refine la F rfl (x_iaddr_A Tryz.underlying26 ty48 ((H.rd 2 rfl)) (F.t 15 rfl) (F.t 16 rfl) hio.1 (by rw [hwl]; exact hio.2) _) fun a F => ?_
    refine la F rfl (x_loadn ty48 (F.t 17 rfl) rfl (H.holds 1499 _ rfl)) fun a F => ?_
    have H := H.bundle (L := [(1, .blk bl (.cells #[.slice Al (rwy s.ways).length cl, .int .i64 (gi s.eps 0), .int .i64 (gi s.eps 1), .int .i64 (gi s.eps 2), .int .i64 (gi s.eps 3), .int .i64 (gi s.eps 4), .int .i64 (gi s.eps 5), .int .i64 (gi s.eps 6), .int .i64 (gi s.eps 7), .int .i64 s.lost] 29 (0, 0))), (2, .rd_ RwayE Al (rwy s.ways) cl okl)]) (N := [(1004, .rd_ (.int .i64) (fA1_0) (grway (rwy s.ways) i).m.nodes fc1_0 okl), (1005, .rd_ ChgE (fA1_1) (grway (rwy s.ways) i).m.changes fc1_1 okl), (1499, .cels (adr Al (Int.toNat i * 7)) #[.int .i64 (grway (rwy s.ways) i).m.kind, .int .i64 (grway (rwy s.ways) i).m.src, .int .i64 (grway (rwy s.ways) i).m.dst, .int .i64 (grway (rwy s.ways) i).m.tx, .slice fA1_0 (grway (rwy s.ways) i).m.nodes.length fc1_0, .slice fA1_1 (grway (rwy s.ways) i).m.changes.length fc1_1, .int .i64 (grway (rwy s.ways) i).epoch]), (1500, .cel (adr Al (Int.toNat i * 7)) (.int .i64 (grway (rwy s.ways) i).m.kind)), (1501, .cel (adr Al (Int.toNat i * 7 + 1)) (.int .i64 (grway (rwy s.ways) i).m.src)), (1502, .cel (adr Al (Int.toNat i * 7 + 2)) (.int .i64 (grway (rwy s.ways) i).m.dst)), (1503, .cel (adr Al (Int.toNat i * 7 + 3)) (.int .i64 (grway (rwy s.ways) i).m.tx)), (1504, .cel (adr Al (Int.toNat i * 7 + 4)) (.slice fA1_0 (grway (rwy s.ways) i).m.nodes.length fc1_0)), (1505, .cel (adr Al (Int.toNat i * 7 + 5)) (.slice fA1_1 (grway (rwy s.ways) i).m.changes.length fc1_1)), (1506, .cel (adr Al (Int.toNat i * 7 + 6)) (.int .i64 (grway (rwy s.ways) i).epoch))]) 100 (sub_cons (sub_cons (sub_nil _) 2 rfl) 1 rfl) (sub_cons (sub_cons (sub_cons (sub_cons (sub_cons (sub_cons (sub_cons (sub_cons (sub_cons (sub_cons (sub_nil _) 1506 rfl) 1505 rfl) 1504 rfl) 1503 rfl) 1502 rfl) 1501 rfl) 1500 rfl) 1499 rfl) 1005 rfl) 1004 rfl) (apart_cons rfl (apart_cons rfl (apart_nil _)))
    refine lp rfl ?_
    refine w_call F (x_enter Tryz.func26 (by kernel_rfl) rfl (by simp only [bM, F.t 11 rfl, F.t 18 rfl] <;> rfl)) (rput_calls (p := (grway (rwy s.ways) i)) _ ⟨_, _, _, rfl⟩ (H.okX 100 rfl) hs ((H.rd 1004 rfl)) ((H.rd 1005 rfl)) (fun k h => H.inb 1004 _ rfl k (.inr h)) (fun k h hx => H.sep 100 1004 _ _ (by decide) rfl rfl k hx (.inr h)) (fun k h => H.inb 1005 _ rfl k (.inr h)) (fun k h hx => H.sep 100 1005 _ _ (by decide) rfl rfl k hx (.inr h))) rfl rfl ?_
    rintro _ w ⟨X2, rfl, hX2, hg_⟩; refine ⟨_, rfl, ?_⟩; clear F; intro a F; have hsz_ := H.mods.size; have H := H.grew 100 rfl hg_ (fun k hk => ⟨100, _, rfl, ⟨2, _, rfl, hk.elim (fun h => h) (fun h => h)⟩⟩)
    refine la F rfl (x_assign (F.t 19 rfl)) fun a F => ?_
    refine wn (hK6 _ _ ?_)
    refine wp_ret ?_
    try simp only [Exit.then, Exit.inBlock]
    rw [show (grway (rwy s.ways) i).tup = idW s i by rw [rwy_at hyes]; rfl] at hX2
    exact fin_ret F (res1 F rfl rfl) ⟨X2, by rw [hyr.2.2.2.2.2.1] <;> rfl, by rw [hyr.2.2.2.2.1]; exact hX2, grew_lab H 100 rfl (fun k hk => by rcases hg_.rd k hk with h | h | h | h; exact .inl h; exact .inr (.inl h); exact .inr (.inl ⟨2, _, rfl, h.elim id id⟩); exact .inr (.inr (.inr (Nat.le_trans hsz_ h))))⟩
theorem rtake_calls (w0 : World) {X : Asn} {bl : Nat} {s : BagS} (hX : RBagA 29 bl s X) (hok : X.ok w0) (hs : BagOk s) (i : Int) : Calls Tryz.prog 9 #[.pointer (some ⟨bl, 0, none⟩), .int .i64 i] w0 fun e w' => ∃ (X' : Asn) (An : Option Addr) (cn : Nat) (Ac : Option Addr) (cc : Nat) (okm : Nat → Prop), e = .returned (.tuple #[.agg #[.int .i64 (lookM s i).kind, .int .i64 (lookM s i).src, .int .i64 (lookM s i).dst, .int .i64 (lookM s i).tx, .slice An (lookM s i).nodes.length cn, .slice Ac (lookM s i).changes.length cc], .bool (freshS s i), .int .i64 (lookE s i)]) ∧ RBagA 29 bl (takeS s i) X' ∧ Grew (fun _ => False) (fun _ => False) X w0 w' X' ∧ (Rd (.int .i64) w' okm An (lookM s i).nodes cn ∧ Rd ChgE w' okm Ac (lookM s i).changes cc) ∧ (∀ k, okm k → X.rd k) ∧ ∀ k, X'.own k → ¬ okm k := by
  obtain ⟨Al, cl, okl, rfl⟩ := hX
  refine cow Tryz.func9 rfl Tryz.ntmps9 (Nat.le_of_ble_eq_true rfl) fun a F => ?_
  have H := Hp.ofAll hok.holds
  have hll := (H.rd 2 rfl).le; unfold maxLen at hll
  have hfew := hs.few
  have hwl := rwy_len s.ways
  refine sr fun khK1 hK1 => ?_
  refine lp rfl ?_
  refine w_alloc 4 F H rfl ty34 ?_
  clear F H; intro a w b4 F H
  refine la F rfl (x_assign rfl) fun a F => ?_
  refine la F rfl (x_assign rfl) fun a F => ?_
  refine wn (hK1 _ _ ?_)
  refine sr fun khK2 hK2 => ?_
  refine la F rfl (x_move (F.t 0 rfl)) fun a F => ?_
  refine la F rfl (x_move (F.t 1 rfl)) fun a F => ?_
  refine lp rfl ?_
  refine w_call F (x_enter Tryz.func28 (by kernel_rfl) rfl (by simp only [bM, F.t 9 rfl, F.t 10 rfl] <;> rfl)) (ris_calls _ ⟨_, _, _, rfl⟩ (H.sub [(1, .blk bl (.cells #[.slice Al (rwy s.ways).length cl, .int .i64 (gi s.eps 0), .int .i64 (gi s.eps 1), .int .i64 (gi s.eps 2), .int .i64 (gi s.eps 3), .int .i64 (gi s.eps 4), .int .i64 (gi s.eps 5), .int .i64 (gi s.eps 6), .int .i64 (gi s.eps 7), .int .i64 s.lost] 29 (0, 0))), (2, .rd_ RwayE Al (rwy s.ways) cl okl)] (sub_cons (sub_cons (sub_nil _) 2 rfl) 1 rfl)).okAll hs i) rfl rfl ?_
  rintro _ w ⟨rfl, hm_⟩; refine ⟨_, rfl, ?_⟩; clear F; intro a F; have H := H.same hm_
  refine la F rfl (x_assign (F.t 11 rfl)) fun a F => ?_
  refine wn (hK2 _ _ ?_)
  refine wp_seq_k fun khK3 hK3 => ?_
  refine sr fun khK4 hK4 => ?_
  refine la F rfl (x_move (F.t 7 rfl)) fun a F => ?_
  refine la F rfl (x_not (F.t 12 rfl)) fun a F => ?_
  refine wn (hK4 _ _ ?_)
  refine wp_cond_split (F.t 13 rfl) (fun hc13 => ?_) (fun hc13 => ?_)
  · have hk13_1 := hc13; try simp only [bL] at hc13
    have hno := look_no (s := s) (i := i) (by simpa using hc13)
    refine sr fun khK5 hK5 => ?_
    refine la F rfl (x_buildS (cells := #[.int .i64 0, .int .i64 0, .int .i64 0, .int .i64 0, .slice none 0 0, .slice none 0 0]) (places := #[(0, 1), (1, 1), (2, 1), (3, 1), (4, 1), (5, 1)]) Tryz.underlying34 ty34 (by kernel_rfl) Array.map_empty rfl) fun a F => ?_
    refine lp rfl ?_
    refine w_storeA 4 H ty34 rfl (F.t 4 rfl) (F.t 14 rfl) rfl (by simp [Value.cells, Value.oneCell']) rfl ?_
    clear H; intro w H
    refine la F rfl (x_assign rfl) fun a F => ?_
    refine la F rfl (x_assign rfl) fun a F => ?_
    refine wn (hK5 _ _ ?_)
    refine wp_ret ?_
    try simp only [Exit.then, Exit.inBlock]
    exact fin_ret F (resct3 F rfl rfl rfl rfl (H.at 4 rfl) ty34 rfl) ⟨Asn.all [(1, .blk bl (.cells #[.slice Al (rwy s.ways).length cl, .int .i64 (gi s.eps 0), .int .i64 (gi s.eps 1), .int .i64 (gi s.eps 2), .int .i64 (gi s.eps 3), .int .i64 (gi s.eps 4), .int .i64 (gi s.eps 5), .int .i64 (gi s.eps 6), .int .i64 (gi s.eps 7), .int .i64 s.lost] 29 (0, 0))), (2, .rd_ RwayE Al (rwy s.ways) cl okl)], none, 0, none, 0, (fun _ => False), by rw [hno.1, hno.2.1, hno.2.2.2.1] <;> rfl, by rw [hno.2.2.1]; exact ⟨_, _, _, rfl⟩, grew_of (H.sub [(1, .blk bl (.cells #[.slice Al (rwy s.ways).length cl, .int .i64 (gi s.eps 0), .int .i64 (gi s.eps 1), .int .i64 (gi s.eps 2), .int .i64 (gi s.eps 3), .int .i64 (gi s.eps 4), .int .i64 (gi s.eps 5), .int .i64 (gi s.eps 6), .int .i64 (gi s.eps 7), .int .i64 s.lost] 29 (0, 0))), (2, .rd_ RwayE Al (rwy s.ways) cl okl)] (sub_cons (sub_cons (sub_nil _) 2 rfl) 1 rfl)) (rdin_cons (fun k h => h.elim) (rdin_cons (fun k h => .inr (.inl ⟨2, _, rfl, h⟩)) rdin_nil)), ⟨by rw [hno.1]; exact Rd.nil _ _ _, by rw [hno.1]; exact Rd.nil _ _ _⟩, (fun k h => h.elim), (fun k _ h => h)⟩
  · have hk13_2 := hc13; try simp only [bL] at hc13
    have hyes : isW s i = true := by simpa using hc13
    have hyr := look_yes hyes
    have hio := isW_parts hyes
    have hd0 : 0 ≤ (grway (rwy s.ways) i).m.dst := by rw [rwy_at hyes]; exact (rightM_parts (hs.all _ (idW_mem hyes).1).1).dst.1
    have hd1 : (grway (rwy s.ways) i).m.dst < 8 := by rw [rwy_at hyes]; exact (rightM_parts (hs.all _ (idW_mem hyes).1).1).dst.2
    refine wp_skip ?_
    refine hK3 _ _ ?_
    refine sr fun khK6 hK6 => ?_
    refine la F rfl (x_move (F.t 0 rfl)) fun a F => ?_
    refine la F rfl (x_nil (F.t 15 rfl)) fun a F => ?_
    refine la F rfl (x_faddr Tryz.underlying29 rfl ty26 (by decide) (F.t 16 rfl) rfl) fun a F => ?_
    refine la F rfl (x_load1 ty26 (F.t 17 rfl) (blk_cell (H.at 1 rfl) 0 rfl)) fun a F => ?_
    obtain ⟨fA1_0, fc1_0, fA1_1, fc1_1, hfr1_0, hfr1_1, hf1_0, hf1_1, hf1_2, hf1_3, hf1_4, hf1_5, hf1_6, hfw1⟩ := rd_rway ((H.rd 2 rfl)) (grway_some (xs := (rwy s.ways)) (i := i) hio.1 (by rw [hwl]; exact hio.2))
    have H := H.subrd 2 rfl 1004 hfr1_0 (fun _ h => h)
    have H := H.subrd 2 rfl 1005 hfr1_1 (fun _ h => h)
    have H := H.subcels 2 rfl 1499 hfw1 (Rd.inok ((H.rd 2 rfl)) (by omega) _)
    have H := H.subcel 2 rfl 1500 hf1_0 (Rd.inok ((H.rd 2 rfl)) (by omega) _)
    have H := H.subcel 2 rfl 1501 hf1_1 (Rd.inok ((H.rd 2 rfl)) (by omega) _)
    have H := H.subcel 2 rfl 1502 hf1_2 (Rd.inok ((H.rd 2 rfl)) (by omega) _)
    have H := H.subcel 2 rfl 1503 hf1_3 (Rd.inok ((H.rd 2 rfl)) (by omega) _)
    have H := H.subcel 2 rfl 1504 hf1_4 (Rd.inok ((H.rd 2 rfl)) (by omega) _)
    have H := H.subcel 2 rfl 1505 hf1_5 (Rd.inok ((H.rd 2 rfl)) (by omega) _)
    have H := H.subcel 2 rfl 1506 hf1_6 (Rd.inok ((H.rd 2 rfl)) (by omega) _)
    refine la F rfl (x_move (F.t 1 rfl)) fun a F => ?_
    refine la F rfl (x_iaddr_A Tryz.underlying26 ty48 ((H.rd 2 rfl)) (F.t 18 rfl) (F.t 19 rfl) hio.1 (by rw [hwl]; exact hio.2) _) fun a F => ?_
    refine la F rfl (x_loadn ty48 (F.t 20 rfl) rfl (H.holds 1499 _ rfl)) fun a F => ?_
    refine lp rfl ?_
    refine w_alloc 8 F H rfl ty48 ?_
    clear F H; intro a w b8 F H
    refine lp rfl ?_
    refine w_storeA 8 H ty48 rfl (F.t 8 rfl) (F.t 21 rfl) rfl (by simp [Value.cells, Value.oneCell']) rfl ?_
    clear H; intro w H
    refine wn (hK6 _ _ ?_)
    refine sr fun khK7 hK7 => ?_
    have H := H.bundle (L := [(1, .blk bl (.cells #[.slice Al (rwy s.ways).length cl, .int .i64 (gi s.eps 0), .int .i64 (gi s.eps 1), .int .i64 (gi s.eps 2), .int .i64 (gi s.eps 3), .int .i64 (gi s.eps 4), .int .i64 (gi s.eps 5), .int .i64 (gi s.eps 6), .int .i64 (gi s.eps 7), .int .i64 s.lost] 29 (0, 0))), (2, .rd_ RwayE Al (rwy s.ways) cl okl)]) (N := [(4, .blk b4 (.cells #[.int .i64 0, .int .i64 0, .int .i64 0, .int .i64 0, .slice none 0 0, .slice none 0 0] 34 (0, 0))), (1004, .rd_ (.int .i64) (fA1_0) (grway (rwy s.ways) i).m.nodes fc1_0 okl), (1005, .rd_ ChgE (fA1_1) (grway (rwy s.ways) i).m.changes fc1_1 okl), (1499, .cels (adr Al (Int.toNat i * 7)) #[.int .i64 (grway (rwy s.ways) i).m.kind, .int .i64 (grway (rwy s.ways) i).m.src, .int .i64 (grway (rwy s.ways) i).m.dst, .int .i64 (grway (rwy s.ways) i).m.tx, .slice fA1_0 (grway (rwy s.ways) i).m.nodes.length fc1_0, .slice fA1_1 (grway (rwy s.ways) i).m.changes.length fc1_1, .int .i64 (grway (rwy s.ways) i).epoch]), (1500, .cel (adr Al (Int.toNat i * 7)) (.int .i64 (grway (rwy s.ways) i).m.kind)), (1501, .cel (adr Al (Int.toNat i * 7 + 1)) (.int .i64 (grway (rwy s.ways) i).m.src)), (1502, .cel (adr Al (Int.toNat i * 7 + 2)) (.int .i64 (grway (rwy s.ways) i).m.dst)), (1503, .cel (adr Al (Int.toNat i * 7 + 3)) (.int .i64 (grway (rwy s.ways) i).m.tx)), (1504, .cel (adr Al (Int.toNat i * 7 + 4)) (.slice fA1_0 (grway (rwy s.ways) i).m.nodes.length fc1_0)), (1505, .cel (adr Al (Int.toNat i * 7 + 5)) (.slice fA1_1 (grway (rwy s.ways) i).m.changes.length fc1_1)), (1506, .cel (adr Al (Int.toNat i * 7 + 6)) (.int .i64 (grway (rwy s.ways) i).epoch)), (8, .blk b8 (.cells #[.int .i64 (grway (rwy s.ways) i).m.kind, .int .i64 (grway (rwy s.ways) i).m.src, .int .i64 (grway (rwy s.ways) i).m.dst, .int .i64 (grway (rwy s.ways) i).m.tx, .slice fA1_0 (grway (rwy s.ways) i).m.nodes.length fc1_0, .slice fA1_1 (grway (rwy s.ways) i).m.changes.length fc1_1, .int .i64 (grway (rwy s.ways) i).epoch] 48 (0, 0)))]) 100 (sub_cons (sub_cons (sub_nil _) 2 rfl) 1 rfl) (sub_cons (sub_cons (sub_cons (sub_cons (sub_cons (sub_cons (sub_cons (sub_cons (sub_cons (sub_cons (sub_cons (sub_cons (sub_nil _) 8 rfl) 1506 rfl) 1505 rfl) 1504 rfl) 1503 rfl) 1502 rfl) 1501 rfl) 1500 rfl) 1499 rfl) 1005 rfl) 1004 rfl) 4 rfl) (apart_cons rfl (apart_cons rfl (apart_nil _)))
    refine la F rfl (x_move (F.t 0 rfl)) fun a F => ?_
    refine la F rfl (x_move (F.t 1 rfl)) fun a F => ?_
    refine lp rfl ?_
    refine w_call F (x_enter Tryz.func29 (by kernel_rfl) rfl (by simp only [bM, F.t 22 rfl, F.t 23 rfl] <;> rfl)) (rgone_calls _ ⟨_, _, _, rfl⟩ (H.okX 100 rfl) hs hyes) rfl rfl ?_
    rintro _ w ⟨X2, rfl, hX2, hg_⟩; refine ⟨_, rfl, ?_⟩; clear F; intro a F; have hsz_ := H.mods.size; have H := H.grew 100 rfl hg_ (fun k hk => hk.elim)
    obtain ⟨Al2, cl2, okl2, rfl⟩ := hX2
    have H := H.unbundle (L := [(1, .blk bl (.cells #[.slice Al2 (rwy (takeS s i).ways).length cl2, .int .i64 (gi (takeS s i).eps 0), .int .i64 (gi (takeS s i).eps 1), .int .i64 (gi (takeS s i).eps 2), .int .i64 (gi (takeS s i).eps 3), .int .i64 (gi (takeS s i).eps 4), .int .i64 (gi (takeS s i).eps 5), .int .i64 (gi (takeS s i).eps 6), .int .i64 (gi (takeS s i).eps 7), .int .i64 ((takeS s i).lost)] 29 (0, 0))), (2, .rd_ RwayE Al2 (rwy (takeS s i).ways) cl2 okl2)]) (N := [(4, .blk b4 (.cells #[.int .i64 0, .int .i64 0, .int .i64 0, .int .i64 0, .slice none 0 0, .slice none 0 0] 34 (0, 0))), (1004, .rd_ (.int .i64) (fA1_0) (grway (rwy s.ways) i).m.nodes fc1_0 okl), (1005, .rd_ ChgE (fA1_1) (grway (rwy s.ways) i).m.changes fc1_1 okl), (1499, .cels (adr Al (Int.toNat i * 7)) #[.int .i64 (grway (rwy s.ways) i).m.kind, .int .i64 (grway (rwy s.ways) i).m.src, .int .i64 (grway (rwy s.ways) i).m.dst, .int .i64 (grway (rwy s.ways) i).m.tx, .slice fA1_0 (grway (rwy s.ways) i).m.nodes.length fc1_0, .slice fA1_1 (grway (rwy s.ways) i).m.changes.length fc1_1, .int .i64 (grway (rwy s.ways) i).epoch]), (1500, .cel (adr Al (Int.toNat i * 7)) (.int .i64 (grway (rwy s.ways) i).m.kind)), (1501, .cel (adr Al (Int.toNat i * 7 + 1)) (.int .i64 (grway (rwy s.ways) i).m.src)), (1502, .cel (adr Al (Int.toNat i * 7 + 2)) (.int .i64 (grway (rwy s.ways) i).m.dst)), (1503, .cel (adr Al (Int.toNat i * 7 + 3)) (.int .i64 (grway (rwy s.ways) i).m.tx)), (1504, .cel (adr Al (Int.toNat i * 7 + 4)) (.slice fA1_0 (grway (rwy s.ways) i).m.nodes.length fc1_0)), (1505, .cel (adr Al (Int.toNat i * 7 + 5)) (.slice fA1_1 (grway (rwy s.ways) i).m.changes.length fc1_1)), (1506, .cel (adr Al (Int.toNat i * 7 + 6)) (.int .i64 (grway (rwy s.ways) i).epoch)), (8, .blk b8 (.cells #[.int .i64 (grway (rwy s.ways) i).m.kind, .int .i64 (grway (rwy s.ways) i).m.src, .int .i64 (grway (rwy s.ways) i).m.dst, .int .i64 (grway (rwy s.ways) i).m.tx, .slice fA1_0 (grway (rwy s.ways) i).m.nodes.length fc1_0, .slice fA1_1 (grway (rwy s.ways) i).m.changes.length fc1_1, .int .i64 (grway (rwy s.ways) i).epoch] 48 (0, 0)))]) 100 rfl (sub_cons (sub_cons (sub_cons (sub_cons (sub_cons (sub_cons (sub_cons (sub_cons (sub_cons (sub_cons (sub_cons (sub_cons (sub_nil _) 8 rfl) 1506 rfl) 1505 rfl) 1504 rfl) 1503 rfl) 1502 rfl) 1501 rfl) 1500 rfl) 1499 rfl) 1005 rfl) 1004 rfl) 4 rfl) rfl
    have hll := (H.rd 2 rfl).le; unfold maxLen at hll
    refine wn (hK7 _ _ ?_)
    refine wp_seq_k fun khK8 hK8 => ?_
    refine r_start [(1, .blk bl (.cells #[.slice Al2 (rwy (takeS s i).ways).length cl2, .int .i64 (gi (takeS s i).eps 0), .int .i64 (gi (takeS s i).eps 1), .int .i64 (gi (takeS s i).eps 2), .int .i64 (gi (takeS s i).eps 3), .int .i64 (gi (takeS s i).eps 4), .int .i64 (gi (takeS s i).eps 5), .int .i64 (gi (takeS s i).eps 6), .int .i64 (gi (takeS s i).eps 7), .int .i64 ((takeS s i).lost)] 29 (0, 0))), (8, .blk b8 (.cells #[.int .i64 (grway (rwy s.ways) i).m.kind, .int .i64 (grway (rwy s.ways) i).m.src, .int .i64 (grway (rwy s.ways) i).m.dst, .int .i64 (grway (rwy s.ways) i).m.tx, .slice fA1_0 (grway (rwy s.ways) i).m.nodes.length fc1_0, .slice fA1_1 (grway (rwy s.ways) i).m.changes.length fc1_1, .int .i64 (grway (rwy s.ways) i).epoch] 48 (0, 0)))] (by kernel_rfl) H fun H => ?_
    have hS : SL [(1, .blk bl (.cells #[.slice Al2 (rwy (takeS s i).ways).length cl2, .int .i64 (gi (takeS s i).eps 0), .int .i64 (gi (takeS s i).eps 1), .int .i64 (gi (takeS s i).eps 2), .int .i64 (gi (takeS s i).eps 3), .int .i64 (gi (takeS s i).eps 4), .int .i64 (gi (takeS s i).eps 5), .int .i64 (gi (takeS s i).eps 6), .int .i64 (gi (takeS s i).eps 7), .int .i64 ((takeS s i).lost)] 29 (0, 0))), (8, .blk b8 (.cells #[.int .i64 (grway (rwy s.ways) i).m.kind, .int .i64 (grway (rwy s.ways) i).m.src, .int .i64 (grway (rwy s.ways) i).m.dst, .int .i64 (grway (rwy s.ways) i).m.tx, .slice fA1_0 (grway (rwy s.ways) i).m.nodes.length fc1_0, .slice fA1_1 (grway (rwy s.ways) i).m.changes.length fc1_1, .int .i64 (grway (rwy s.ways) i).epoch] 48 (0, 0)))] _ := SL.of H (sub_cons (sub_cons (sub_nil _) 8 rfl) 1 rfl)
    refine rT 0 F rfl (by kernel_rfl) pq rfl hS (fun w hS => x_faddr Tryz.underlying48 rfl ty34 (by decide) (F.t 8 rfl) rfl) rfl fun a F => ?_
    refine rT 1 F rfl (by kernel_rfl) pq rfl hS (fun w hS => x_loadn (cs := #[.int .i64 (grway (rwy s.ways) i).m.kind, .int .i64 (grway (rwy s.ways) i).m.src, .int .i64 (grway (rwy s.ways) i).m.dst, .int .i64 (grway (rwy s.ways) i).m.tx, .slice fA1_0 (grway (rwy s.ways) i).m.nodes.length fc1_0, .slice fA1_1 (grway (rwy s.ways) i).m.changes.length fc1_1]) ty34 (F.t 25 rfl) rfl (blk_sub (SL.at_ hS 8 rfl) 0 6 rfl)) rfl fun a F => ?_
    refine rT 2 F rfl (by kernel_rfl) pq rfl hS (fun w hS => x_faddr Tryz.underlying48 rfl ty3 (by decide) (F.t 8 rfl) rfl) rfl fun a F => ?_
    refine rT 3 F rfl (by kernel_rfl) pq rfl hS (fun w hS => x_load1 ty3 (F.t 27 rfl) (blk_cell (SL.at_ hS 8 rfl) 6 rfl)) rfl fun a F => ?_
    refine rT 4 F rfl (by kernel_rfl) pq rfl hS (fun w hS => x_move (F.t 0 rfl)) rfl fun a F => ?_
    refine rT 5 F rfl (by kernel_rfl) pq rfl hS (fun w hS => x_faddr Tryz.underlying48 rfl ty34 (by decide) (F.t 8 rfl) rfl) rfl fun a F => ?_
    refine rT 6 F rfl (by kernel_rfl) pq rfl hS (fun w hS => x_faddr Tryz.underlying34 rfl ty3 (by decide) (F.t 30 rfl) rfl) rfl fun a F => ?_
    refine rT 7 F rfl (by kernel_rfl) pq rfl hS (fun w hS => x_load1 ty3 (F.t 31 rfl) (blk_cell (SL.at_ hS 8 rfl) 2 rfl)) rfl fun a F => ?_
    refine rT 8 F rfl (by kernel_rfl) pq rfl hS (fun w hS => x_nil (F.t 29 rfl)) rfl fun a F => ?_
    refine rT 9 F rfl (by kernel_rfl) pq rfl hS (fun w hS => x_faddr Tryz.underlying29 rfl ty27 (by decide) (F.t 33 rfl) rfl) rfl fun a F => ?_
    refine rT 10 F rfl (by kernel_rfl) pq rfl hS (fun w hS => x_iaddr_arr Tryz.underlying27 ty3 (F.t 34 rfl) (F.t 32 rfl) (by have := hd0; omega) (by have := hd1; show _ < (8 : Int); omega)) rfl fun a F => ?_
    refine r_do2 11 13 rfl rfl (by kernel_rfl) rfl rfl rfl rfl ?_ ?_
    ·
      refine w_at F (x_load1 ty3 (F.t 35 rfl) (blk_cell (H.at 1 rfl) _ (eps_at (by have := hd0; omega) (by have := hd1; omega)))) rfl rfl ?_
      clear F; intro a F
      refine aN (SL.of H (sub_cons (sub_cons (sub_nil _) 8 rfl) 1 rfl)) fun hS => ?_
      refine rT 12 F rfl (by kernel_rfl) pq rfl hS (fun w hS => x_eql (F.t 28 rfl) (F.t 36 rfl)) rfl fun a F => ?_
      refine r_do 13 rfl (by kernel_rfl) rfl rfl ?_
      refine w_storeA 4 H ty34 rfl (F.t 4 rfl) (F.t 26 rfl) rfl (by simp [Value.cells, Value.oneCell']) rfl ?_
      clear H; intro w H
      refine aN (SL.of H (sub_cons (sub_cons (sub_nil _) 8 rfl) 1 rfl)) fun hS => ?_
      refine rT 14 F rfl (by kernel_rfl) pq rfl hS (fun w hS => x_assign (F.t 37 rfl)) rfl fun a F => ?_
      refine rT 15 F rfl (by kernel_rfl) pq rfl hS (fun w hS => x_assign rfl) rfl fun a F => ?_
      refine r_end (by kernel_rfl) ?_; clear hS
      refine hK8 _ _ ?_
      refine wp_ret ?_
      try simp only [Exit.then, Exit.inBlock]
      have e1 : lookM s i = (grway (rwy s.ways) i).m := by rw [rwy_at hyes, hyr.1]
      have e2 : freshS s i = decide ((grway (rwy s.ways) i).epoch = gi (takeS s i).eps (grway (rwy s.ways) i).m.dst) := by rw [rwy_at hyes, hyr.2.2.2.1, take_eps]
      exact fin_ret F (resct3 F rfl rfl rfl rfl (H.at 4 rfl) ty34 rfl) ⟨Asn.all [(1, .blk bl (.cells #[.slice Al2 (rwy (takeS s i).ways).length cl2, .int .i64 (gi (takeS s i).eps 0), .int .i64 (gi (takeS s i).eps 1), .int .i64 (gi (takeS s i).eps 2), .int .i64 (gi (takeS s i).eps 3), .int .i64 (gi (takeS s i).eps 4), .int .i64 (gi (takeS s i).eps 5), .int .i64 (gi (takeS s i).eps 6), .int .i64 (gi (takeS s i).eps 7), .int .i64 ((takeS s i).lost)] 29 (0, 0))), (2, .rd_ RwayE Al2 (rwy (takeS s i).ways) cl2 okl2)], (fA1_0), fc1_0, (fA1_1), fc1_1, okl, by rw [e1, e2, hyr.2.1] <;> rfl, ⟨_, _, _, rfl⟩, grew_of (H.sub [(1, .blk bl (.cells #[.slice Al2 (rwy (takeS s i).ways).length cl2, .int .i64 (gi (takeS s i).eps 0), .int .i64 (gi (takeS s i).eps 1), .int .i64 (gi (takeS s i).eps 2), .int .i64 (gi (takeS s i).eps 3), .int .i64 (gi (takeS s i).eps 4), .int .i64 (gi (takeS s i).eps 5), .int .i64 (gi (takeS s i).eps 6), .int .i64 (gi (takeS s i).eps 7), .int .i64 ((takeS s i).lost)] 29 (0, 0))), (2, .rd_ RwayE Al2 (rwy (takeS s i).ways) cl2 okl2)] (sub_cons (sub_cons (sub_nil _) 2 rfl) 1 rfl)) (rdin_cons (fun k h => h.elim) (rdin_cons (fun k h => by rcases hg_.rd k ⟨2, _, rfl, h⟩ with h | h | h | h; exact .inl h; exact .inr (.inl h); exact h.elim; exact .inr (.inr (.inr (Nat.le_trans hsz_ h)))) rdin_nil)), ⟨by rw [e1]; exact H.rd 1004 rfl, by rw [e1]; exact H.rd 1005 rfl⟩, (fun k h => ⟨2, _, rfl, h⟩), (own_cons (fun k hk h => H.sep 1 1004 _ _ (by decide) rfl rfl k hk (.inr h)) (own_cons (fun k hk h => hk.elim) own_nil))⟩
    ·
      refine w_storeA 4 H ty34 rfl (F.t 4 rfl) (F.t 26 rfl) rfl (by simp [Value.cells, Value.oneCell']) rfl ?_
      clear H; intro w H
      refine aN (SL.of H (sub_cons (sub_cons (sub_nil _) 8 rfl) 1 rfl)) fun hS => ?_
      refine r_do 11 rfl (by kernel_rfl) rfl rfl ?_
      refine w_at F (x_load1 ty3 (F.t 35 rfl) (blk_cell (H.at 1 rfl) _ (eps_at (by have := hd0; omega) (by have := hd1; omega)))) rfl rfl ?_
      clear F; intro a F
      refine aN (SL.of H (sub_cons (sub_cons (sub_nil _) 8 rfl) 1 rfl)) fun hS => ?_
      refine rT 12 F rfl (by kernel_rfl) pq rfl hS (fun w hS => x_eql (F.t 28 rfl) (F.t 36 rfl)) rfl fun a F => ?_
      refine rT 14 F rfl (by kernel_rfl) pq rfl hS (fun w hS => x_assign (F.t 37 rfl)) rfl fun a F => ?_
      refine rT 15 F rfl (by kernel_rfl) pq rfl hS (fun w hS => x_assign rfl) rfl fun a F => ?_
      refine r_end (by kernel_rfl) ?_; clear hS
      refine hK8 _ _ ?_
      refine wp_ret ?_
      try simp only [Exit.then, Exit.inBlock]
      have e1 : lookM s i = (grway (rwy s.ways) i).m := by rw [rwy_at hyes, hyr.1]
      have e2 : freshS s i = decide ((grway (rwy s.ways) i).epoch = gi (takeS s i).eps (grway (rwy s.ways) i).m.dst) := by rw [rwy_at hyes, hyr.2.2.2.1, take_eps]
      exact fin_ret F (resct3 F rfl rfl rfl rfl (H.at 4 rfl) ty34 rfl) ⟨Asn.all [(1, .blk bl (.cells #[.slice Al2 (rwy (takeS s i).ways).length cl2, .int .i64 (gi (takeS s i).eps 0), .int .i64 (gi (takeS s i).eps 1), .int .i64 (gi (takeS s i).eps 2), .int .i64 (gi (takeS s i).eps 3), .int .i64 (gi (takeS s i).eps 4), .int .i64 (gi (takeS s i).eps 5), .int .i64 (gi (takeS s i).eps 6), .int .i64 (gi (takeS s i).eps 7), .int .i64 ((takeS s i).lost)] 29 (0, 0))), (2, .rd_ RwayE Al2 (rwy (takeS s i).ways) cl2 okl2)], (fA1_0), fc1_0, (fA1_1), fc1_1, okl, by rw [e1, e2, hyr.2.1] <;> rfl, ⟨_, _, _, rfl⟩, grew_of (H.sub [(1, .blk bl (.cells #[.slice Al2 (rwy (takeS s i).ways).length cl2, .int .i64 (gi (takeS s i).eps 0), .int .i64 (gi (takeS s i).eps 1), .int .i64 (gi (takeS s i).eps 2), .int .i64 (gi (takeS s i).eps 3), .int .i64 (gi (takeS s i).eps 4), .int .i64 (gi (takeS s i).eps 5), .int .i64 (gi (takeS s i).eps 6), .int .i64 (gi (takeS s i).eps 7), .int .i64 ((takeS s i).lost)] 29 (0, 0))), (2, .rd_ RwayE Al2 (rwy (takeS s i).ways) cl2 okl2)] (sub_cons (sub_cons (sub_nil _) 2 rfl) 1 rfl)) (rdin_cons (fun k h => h.elim) (rdin_cons (fun k h => by rcases hg_.rd k ⟨2, _, rfl, h⟩ with h | h | h | h; exact .inl h; exact .inr (.inl h); exact h.elim; exact .inr (.inr (.inr (Nat.le_trans hsz_ h)))) rdin_nil)), ⟨by rw [e1]; exact H.rd 1004 rfl, by rw [e1]; exact H.rd 1005 rfl⟩, (fun k h => ⟨2, _, rfl, h⟩), (own_cons (fun k hk h => H.sep 1 1004 _ _ (by decide) rfl rfl k hk (.inr h)) (own_cons (fun k hk h => hk.elim) own_nil))⟩
end Go.Proofs.YtfocpadeflpabaaGreatDoor.Act
