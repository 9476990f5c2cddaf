-- Written by a program of this session that drives the print of the kit, with contracts of its own beside the printed ones. Lean checks it.
import Derived.Test.YtnkcoooifjjmbaaQFnExactHistOkx0
import Derived.Test.YtnkcoooifjjmbaaQFnExactHistOkx3
namespace Go.Proofs.Ytnkcoooifjjmbaa.QFnExactHistOk
open Go.RowKit Go.Proofs.YtnkcoooifjjmbaaW.PrintWords Go.Proofs.YtnkcoooifjjmbaaW.PrintLast Go.Proofs.YtnkcoooifjjmbaaW.PrintMore
attribute [local go_sem] max2_int min2_int max_two min_two max_three min_three max_four min_four   -- for this text's walks alone
set_option linter.unusedVariables false
set_option linter.unusedSimpArgs false

/-! ### laws_toCallS: function 20 -/
def laws_toCallS.l0 : Nat → List (S71) → List (S69) → Int → Option ((List (S69)))
  | 0, _, _, _ => none
  | k + 1, x0, x3, x4 => if x4 < (x0.length : Int) then (if 0 ≤ x4 then ((laws_toCall.f ((rd_T71 x0 x4).f0) ((rd_T71 x0 x4).f1) ((rd_T71 x0 x4).f2) ((rd_T71 x0 x4).f3) ((rd_T71 x0 x4).f4) ((rd_T71 x0 x4).f5)).bind fun bt157 => (if x4 < (x3.length : Int) then (laws_toCallS.l0 k x0 (x3.set (x4 : Int).toNat (⟨bt157.1, bt157.2.1, bt157.2.2.1, bt157.2.2.2.1, bt157.2.2.2.2.1, bt157.2.2.2.2.2⟩ : S69)) (wrap64 (x4 + 1))) else (none))) else (none)) else (some x3)
def laws_toCallS.f (k : Nat) (l0 : List (S71)) : Option ((List (S69))) := if 0 ≤ (l0.length : Int) then (if ((l0.length : Int) : Int).toNat ≤ 5864062014805 then (laws_toCallS.l0 k l0 (List.replicate ((l0.length : Int) : Int).toNat z69) 0) else (none)) else (none)
theorem laws_toCallS.mono_l : ∀ k, (∀ y0 y1 y2, LeO (laws_toCallS.l0 k y0 y1 y2) (laws_toCallS.l0 (k + 1) y0 y1 y2))
  | 0 => fun _ _ _ r h => by simp [laws_toCallS.l0] at h
  | k + 1 => by
    have ih0 := laws_toCallS.mono_l k
    · intro y0 y1 y2
      unfold laws_toCallS.l0
      repeat' first
      | (with_reducible exact ih0 _ _ _)
      | (with_reducible exact LeO.refl _)
      | (with_reducible exact LeO.none _)
      | (with_reducible refine LeO.ite ?_ ?_)
      | (with_reducible refine LeO.bind ?_ (fun _ => ?_))
      | exact ih0 _ _ _
      | exact LeO.none _
      | refine LeO.ite ?_ ?_
      | refine LeO.bind ?_ (fun _ => ?_)
theorem laws_toCallS.mono : ∀ a0 k, LeO (laws_toCallS.f k a0) (laws_toCallS.f (k + 1) a0) := by
  intro a0 k
  have ih0 := laws_toCallS.mono_l k
  unfold laws_toCallS.f
  repeat' first
      | (with_reducible exact ih0 _ _ _)
      | (with_reducible exact LeO.refl _)
      | (with_reducible exact LeO.none _)
      | (with_reducible refine LeO.ite ?_ ?_)
      | (with_reducible refine LeO.bind ?_ (fun _ => ?_))
      | exact ih0 _ _ _
      | exact LeO.none _
      | refine LeO.ite ?_ ?_
      | refine LeO.bind ?_ (fun _ => ?_)
set_option maxHeartbeats 8000000 in
set_option maxRecDepth 100000 in
theorem laws_toCallS.calls (k : Nat) (A0 : Option Addr) (c0 : Nat) (l0 : List (S71)) (r : List (S69)) (w : World) (hr0 : Kd.C k71 w A0 l0.length l0) (hc0 : l0.length ≤ c0) (h : laws_toCallS.f k l0 = some r) :
    Calls Try.prog 20 #[.slice A0 l0.length c0] w fun e w' => ∃ v0_ : Value, e = .returned (v0_) ∧ Kd.R k69 69 w' w.heap.size (fun _ => True) v0_ r ∧ Below w.heap.size w w' := by
  have hu71 := Try.underlying71
  have hu69 := Try.underlying69
  have HR0 := Aside0.mk hr0
  have HC0 := Aside0.mk hc0
  clear hr0 hc0
  have HB := Aside0.mk (Below.refl w.heap.size w)
  have H : (if 0 ≤ (l0.length : Int) then (if ((l0.length : Int) : Int).toNat ≤ 5864062014805 then (laws_toCallS.l0 k l0 (List.replicate ((l0.length : Int) : Int).toNat z69) 0) else (none)) else (none)) = some r := h
  clear h
  by_cases c2 : 0 ≤ (l0.length : Int)
  · rw [if_pos c2] at H
    have c2b0 := eq_true c2
    have c2b1 : decide (0 ≤ (l0.length : Int)) = true := decide_eq_true c2
    clear c2
    by_cases c3 : ((l0.length : Int) : Int).toNat ≤ 5864062014805
    · rw [if_pos c3] at H
      have c3b0 := eq_true c3
      have c3b1 : decide (((l0.length : Int) : Int).toNat ≤ 5864062014805) = true := decide_eq_true c3
      clear c3
      obtain ⟨y153, hy153⟩ : ∃ y_ : List (S69), y_ = (List.replicate ((l0.length : Int) : Int).toNat z69) := ⟨_, rfl⟩
      replace H : (laws_toCallS.l0 k l0 y153 0) = some r := by first | (rw [hy153]; with_reducible exact H) | (have H2_ := (Option.bind_some _ _).symm.trans H; rw [hy153]; with_reducible exact H2_) | (have H2_ := (Option.bind_some _ _).symm.trans H; with_reducible exact H2_) | with_reducible exact H | (rw [hy153]; exact H) | exact H
      have Ny153 := Aside0.mk hy153
      clear hy153
      have H' := Aside0.mk H
      clear H
      go_enter Try.func20, Try.ntmps20
      go_wp2_with (first | ((with_reducible refine gate_dst (N := 7) rfl ?_); refine Kd.R_make k69 _ 69 rfl (N := 7) rfl 50 _ _ rfl (l0.length : Int) rfl rfl Try.underlying50 (.agg #[(.int .i64 0), (.int .i64 0), (.int .i64 0), (.int .i64 0), (.int .i64 0), (.int .i64 0)]) 48 info69 rfl (by decide) (by omega) z69 (ok := fun _ => True) (okp := fun _ => True) (k69_mkM _ _ _ z69 ) (fun _ hk => hk) trivial (of_decide_eq_true (by first | (with_reducible assumption) | assumption)) (Nat.le_trans (Nat.mul_le_mul_right _ (of_decide_eq_true (by first | (with_reducible assumption) | assumption) : (l0.length : Int).toNat ≤ 5864062014805)) (by omega)) (Below.refl _ _) (Nat.le_refl _) ?_; intro v154 w4 ho5 hb hg_ hnew_; clear hg_ hnew_; (first | rw [← Ny153.out] at ho5 | (simp only [Int.reduceToNat] at ho5; rw [← Ny153.out] at ho5)); have n0_ := Aside0.mk (Kd.R_lower ho5 (below_size (by repeat (first | (with_reducible first | exact HB.out | apply below_alloc | apply pw_below_drewN | apply below_drew1) | exact HB.out)))); have n1_ := Aside0.mk (below_step (by repeat (first | (with_reducible first | exact HB.out | apply below_alloc | apply pw_below_drewN | apply below_drew1) | exact HB.out)) hb); clear HB; have HO155 := n0_; have HB := n1_; clear n0_ n1_; clear hb ho5))
      go_loopg [4] k (fun kq v4 w' => ∃ (x3_1 : List (S69)) (x4_1 : Int), v4 = .int .i64 x4_1 ∧ Aside0 (laws_toCallS.l0 kq l0 x3_1 x4_1 = some r) ∧ Aside0 (kq ≤ k) ∧ Aside0 (Kd.R k69 69 w' w.heap.size (fun _ => True) v154 x3_1) ∧ Aside0 (Below w.heap.size w w'))
      case atStart => exact ⟨(y153), (0), (by first | rfl | (simp; done) | (simp [*]; done)), H', ⟨Nat.le_refl _⟩, ⟨by (with_reducible repeat (first | apply Kd.R_alloc | apply Kd.R_drewN | apply Kd.R_drew)); exact HO155.out⟩, ⟨by repeat (first | (with_reducible first | exact HB.out | apply below_alloc | apply pw_below_drewN | apply below_drew1) | exact HB.out)⟩⟩
      case round =>
        clear H'
        try clear c2
        try clear c2b0
        try clear c2b1
        try clear p2
        try clear c3
        try clear c3b0
        try clear c3b1
        obtain ⟨x3_1, x4_1, rfl, HA, HK1, HO_3, HB⟩ := hrel
        cases gk with
        | zero => exact absurd HA.out (by simp [laws_toCallS.l0])
        | succ k1 =>
          have H := HA.out
          clear HA
          simp only [laws_toCallS.l0] at H
          by_cases c6 : x4_1 < (l0.length : Int)
          · rw [if_pos c6] at H
            have c6b0 : decide (x4_1 < (l0.length : Int)) = true := decide_eq_true c6
            clear c6
            by_cases c7 : 0 ≤ x4_1
            · rw [if_pos c7] at H
              have c7b0 : decide (0 ≤ x4_1) = true := decide_eq_true c7
              clear c7
              replace H := Option.bind_eq_some_iff.mp H
              obtain ⟨⟨t157, t158, t159, t160, t161, t162⟩, A80, H⟩ := H
              replace H : (if x4_1 < (x3_1.length : Int) then (laws_toCallS.l0 k1 l0 (x3_1.set (x4_1 : Int).toNat (⟨t157, t158, t159, t160, t161, t162⟩ : S69)) (wrap64 (x4_1 + 1))) else (none)) = some r := H
              have A8 := Aside0.mk A80
              clear A80
              by_cases c9 : x4_1 < (x3_1.length : Int)
              · rw [if_pos c9] at H
                have c9b0 : decide (x4_1 < (x3_1.length : Int)) = true := decide_eq_true c9
                clear c9
                obtain ⟨y163, hy163⟩ : ∃ y_ : List (S69), y_ = (x3_1.set (x4_1 : Int).toNat (⟨t157, t158, t159, t160, t161, t162⟩ : S69)) := ⟨_, rfl⟩
                replace H : (laws_toCallS.l0 k1 l0 y163 (wrap64 (x4_1 + 1))) = some r := by first | (rw [hy163]; with_reducible exact H) | (have H2_ := (Option.bind_some _ _).symm.trans H; rw [hy163]; with_reducible exact H2_) | (have H2_ := (Option.bind_some _ _).symm.trans H; with_reducible exact H2_) | with_reducible exact H | (rw [hy163]; exact H) | exact H
                have Ny163 := Aside0.mk hy163
                clear hy163
                have H' := Aside0.mk H
                clear H
                have p156 : 0 ≤ (x4_1 : Int) := of_decide_eq_true (by first | (with_reducible assumption) | assumption)
                have q156 : x4_1 < (l0.length : Int) := of_decide_eq_true (by first | (with_reducible assumption) | assumption)
                obtain ⟨ad156, e156, hx156_0, hx156_1, hx156_2, hx156_3, hx156_4, hx156_5⟩ := at_T71 HR0.out x4_1 p156 q156
                cases e156
                replace hx156_0 := (HB.out.cell (World.block_lt_of_cell? w _ hx156_0)).trans hx156_0
                replace hx156_1 := (HB.out.cell (World.block_lt_of_cell? w _ hx156_1)).trans hx156_1
                replace hx156_2 := (HB.out.cell (World.block_lt_of_cell? w _ hx156_2)).trans hx156_2
                replace hx156_3 := (HB.out.cell (World.block_lt_of_cell? w _ hx156_3)).trans hx156_3
                replace hx156_4 := (HB.out.cell (World.block_lt_of_cell? w _ hx156_4)).trans hx156_4
                replace hx156_5 := (HB.out.cell (World.block_lt_of_cell? w _ hx156_5)).trans hx156_5
                replace p156 := eq_true p156
                replace q156 := eq_true q156
                go_wp2_with (first | ((with_reducible refine gate_callee (f := 31) rfl ?_); refine goesL_ (some 20) rfl rfl Try.func31 (by kernel_rfl) rfl #[.agg #[.int .i64 ((rd_T71 l0 x4_1).f0), .int .i64 ((rd_T71 l0 x4_1).f1), .int .i64 ((rd_T71 l0 x4_1).f2), .int .i64 ((rd_T71 l0 x4_1).f3), .int .i64 ((rd_T71 l0 x4_1).f4), .int .i64 ((rd_T71 l0 x4_1).f5)]] rfl (by (try simp only [List.map_toArray, List.map_cons, List.map_nil]); first | done | rfl | (simp only [List.length_drop, List.length_take]; rfl)) ?_; (with_reducible refine (laws_toCall.calls ((rd_T71 l0 x4_1).f0) ((rd_T71 l0 x4_1).f1) ((rd_T71 l0 x4_1).f2) ((rd_T71 l0 x4_1).f3) ((rd_T71 l0 x4_1).f4) ((rd_T71 l0 x4_1).f5) t157 t158 t159 t160 t161 t162 _ A8.out).mono ?_); rintro e w11 ⟨rfl, hb⟩; refine ⟨_, rfl, ?_⟩; have n0_ := Aside0.mk (Kd.R_below (by (with_reducible repeat (first | apply Kd.R_alloc | apply Kd.R_drewN | apply Kd.R_drew)); exact HO_3.out) hb); have n1_ := Aside0.mk (below_step (by repeat (first | (with_reducible first | exact HB.out | apply below_alloc | apply pw_below_drewN | apply below_drew1) | exact HB.out)) hb); clear HO_3; clear HB; have HO_3 := n0_; have HB := n1_; clear n0_ n1_; (try clear hb); (try clear hb2); (try clear hk); (try clear hi); have p10 : 0 ≤ (x4_1 : Int) := of_decide_eq_true (by first | (with_reducible assumption) | assumption); have q10 : (x4_1 : Int) < ((x3_1.length : Int) : Int) := of_decide_eq_true (by first | (with_reducible assumption) | assumption); obtain ⟨go10, co10, eo10, gb10, gl10, cl10, HG10⟩ := Kd.R_form HO_3.out (by omega); (first | cases eo10 | (injection eo10 with ea_ en_ ec_; (first | subst ea_ | (injection ea_ with ea_; subst ea_)); subst ec_; clear en_)); have GB10 := Aside0.mk gb10; have GG10 := Aside0.mk HG10; clear gb10 gl10 HG10; obtain ⟨ce10, hcl10, hM10, hcc10, hfr10⟩ := Kd.R_elem HO_3.out z69 (x4_1 : Int) p10 q10; obtain rfl := k69_openM hM10; have hx10_0 : w11.cell? ⟨go10, (x4_1 : Int).toNat * 6, none⟩ = some (.int .i64 ((rd_T69 x3_1 x4_1).f0)) := hcc10 0 _ rfl; have hx10_1 : w11.cell? ⟨go10, (x4_1 : Int).toNat * 6 + 1, none⟩ = some (.int .i64 ((rd_T69 x3_1 x4_1).f1)) := hcc10 1 _ rfl; have hx10_2 : w11.cell? ⟨go10, (x4_1 : Int).toNat * 6 + 2, none⟩ = some (.int .i64 ((rd_T69 x3_1 x4_1).f2)) := hcc10 2 _ rfl; have hx10_3 : w11.cell? ⟨go10, (x4_1 : Int).toNat * 6 + 3, none⟩ = some (.int .i64 ((rd_T69 x3_1 x4_1).f3)) := hcc10 3 _ rfl; have hx10_4 : w11.cell? ⟨go10, (x4_1 : Int).toNat * 6 + 4, none⟩ = some (.int .i64 ((rd_T69 x3_1 x4_1).f4)) := hcc10 4 _ rfl; have hx10_5 : w11.cell? ⟨go10, (x4_1 : Int).toNat * 6 + 5, none⟩ = some (.int .i64 ((rd_T69 x3_1 x4_1).f5)) := hcc10 5 _ rfl; have hf10_0 : w11.frozen? ⟨go10, (x4_1 : Int).toNat * 6, none⟩ = false := hfr10 0; have hf10_1 : w11.frozen? ⟨go10, (x4_1 : Int).toNat * 6 + 1, none⟩ = false := hfr10 1; have hf10_2 : w11.frozen? ⟨go10, (x4_1 : Int).toNat * 6 + 2, none⟩ = false := hfr10 2; have hf10_3 : w11.frozen? ⟨go10, (x4_1 : Int).toNat * 6 + 3, none⟩ = false := hfr10 3; have hf10_4 : w11.frozen? ⟨go10, (x4_1 : Int).toNat * 6 + 4, none⟩ = false := hfr10 4; have hf10_5 : w11.frozen? ⟨go10, (x4_1 : Int).toNat * 6 + 5, none⟩ = false := hfr10 5; clear hcl10 hcc10 hfr10 hM10; replace p10 := eq_true p10; replace q10 := eq_true q10; have HX12 := Aside0.mk (show Kd.R k69 69 w11 w.heap.size (fun _ => True) (.slice (some ⟨go10, 0, none⟩) x3_1.length co10) x3_1 from (by (with_reducible repeat (first | apply Kd.R_alloc | apply Kd.R_drewN | apply Kd.R_drew)); exact HO_3.out)); obtain ⟨ce12, hcl12, hM12, hcc12, hfr12⟩ := Kd.R_elem HX12.out z69 (x4_1 : Int) (of_decide_eq_true (by first | (with_reducible assumption) | assumption)) (by have h_ : (x4_1 : Int) < ((x3_1.length : Int) : Int) := of_decide_eq_true (by first | (with_reducible assumption) | assumption); first | exact h_ | (have e_ := (Kd.R_reads' HO_3.out).1; omega) | simpa using h_); obtain rfl := k69_openM hM12; have HP12 := Kd.R_seg HX12.out (x4_1 : Int) (of_decide_eq_true (by first | (with_reducible assumption) | assumption)) (by have h_ : (x4_1 : Int) < ((x3_1.length : Int) : Int) := of_decide_eq_true (by first | (with_reducible assumption) | assumption); first | exact h_ | (have e_ := (Kd.R_reads' HO_3.out).1; omega) | simpa using h_) (seg := [.int .i64 t157, .int .i64 t158, .int .i64 t159, .int .i64 t160, .int .i64 t161, .int .i64 t162]) (j := 0) hcl12 hcc12 (show 6 ≤ 6 from by decide) (x' := (⟨t157, t158, t159, t160, t161, t162⟩ : S69)) (k69_mkM _ _ _ (⟨t157, t158, t159, t160, t161, t162⟩ : S69) ) (fun _ hk => hk); have hx12_0 := hcc12 0 _ rfl; (try simp only [show (k69).sz = 6 from rfl, Nat.mul_one, Nat.add_zero] at hx12_0); have hf12_0 := hfr12 0; (try simp only [show (k69).sz = 6 from rfl, Nat.mul_one, Nat.add_zero] at hf12_0); have hx12_1 := hcc12 1 _ rfl; (try simp only [show (k69).sz = 6 from rfl, Nat.mul_one, Nat.add_zero] at hx12_1); have hf12_1 := hfr12 1; (try simp only [show (k69).sz = 6 from rfl, Nat.mul_one, Nat.add_zero] at hf12_1); have hx12_2 := hcc12 2 _ rfl; (try simp only [show (k69).sz = 6 from rfl, Nat.mul_one, Nat.add_zero] at hx12_2); have hf12_2 := hfr12 2; (try simp only [show (k69).sz = 6 from rfl, Nat.mul_one, Nat.add_zero] at hf12_2); have hx12_3 := hcc12 3 _ rfl; (try simp only [show (k69).sz = 6 from rfl, Nat.mul_one, Nat.add_zero] at hx12_3); have hf12_3 := hfr12 3; (try simp only [show (k69).sz = 6 from rfl, Nat.mul_one, Nat.add_zero] at hf12_3); have hx12_4 := hcc12 4 _ rfl; (try simp only [show (k69).sz = 6 from rfl, Nat.mul_one, Nat.add_zero] at hx12_4); have hf12_4 := hfr12 4; (try simp only [show (k69).sz = 6 from rfl, Nat.mul_one, Nat.add_zero] at hf12_4); have hx12_5 := hcc12 5 _ rfl; (try simp only [show (k69).sz = 6 from rfl, Nat.mul_one, Nat.add_zero] at hx12_5); have hf12_5 := hfr12 5; (try simp only [show (k69).sz = 6 from rfl, Nat.mul_one, Nat.add_zero] at hf12_5); clear hcl12 hcc12 hfr12 hM12) | ((with_reducible refine gate_store (t := 69) (p := 21) rfl ?_); refine store_event (t := 69) (p := 21) (v := ?vo_w13) (w1 := ((((((w11.setCell ⟨go10, (x4_1 : Int).toNat * 6, none⟩ (.int .i64 t157)).setCell ⟨go10, (x4_1 : Int).toNat * 6 + 1, none⟩ (.int .i64 t158)).setCell ⟨go10, (x4_1 : Int).toNat * 6 + 2, none⟩ (.int .i64 t159)).setCell ⟨go10, (x4_1 : Int).toNat * 6 + 3, none⟩ (.int .i64 t160)).setCell ⟨go10, (x4_1 : Int).toNat * 6 + 4, none⟩ (.int .i64 t161)).setCell ⟨go10, (x4_1 : Int).toNat * 6 + 5, none⟩ (.int .i64 t162))) ?hg ?ho ?hn ?hr ?_; (case ho => rfl); (case hg => rfl); (case hn => rfl); (case hr => first | (go_simp; done) | (go_simp; rfl)); intro w13 hw; have hg : w11.grownBy w13 (some go10) := (by rw [hw]; exact HP12.2); have hp_ : Kd.R k69 69 w13 w.heap.size (fun _ => True) (.slice (some ⟨go10, 0, none⟩) x3_1.length co10) y163 := (by rw [hw, Ny163.out]; exact HP12.1); clear HP12; have n0_ := Aside0.mk (hp_); have n1_ := Aside0.mk ((by rw [hw]; exact below_set (below_set (below_set (below_set (below_set (below_set (HB.out) GB10.out) GB10.out) GB10.out) GB10.out) GB10.out) GB10.out : Below w.heap.size w w13)); clear HO_3; clear HB; have HO_3 := n0_; have HB := n1_; clear n0_ n1_; clear hg hw hp_))
                go_roundg k1
                case measure => have := HK1.out; omega
                case rel => exact ⟨(y163), (wrap64 (x4_1 + 1)), (by first | rfl | (simp; done) | (simp [*]; done)), H', ⟨by have := HK1.out; omega⟩, ⟨by (with_reducible repeat (first | apply Kd.R_alloc | apply Kd.R_drewN | apply Kd.R_drew)); exact HO_3.out⟩, ⟨by repeat (first | (with_reducible first | exact HB.out | apply below_alloc | apply pw_below_drewN | apply below_drew1) | exact HB.out)⟩⟩
              · rw [if_neg c9] at H
                exact absurd H (by simp)
            · rw [if_neg c7] at H
              exact absurd H (by simp)
          · rw [if_neg c6] at H
            have c6b0 : decide (x4_1 < (l0.length : Int)) = false := decide_eq_false c6
            clear c6
            obtain rfl := Option.some.inj H
            go_wp2
            go_ret
            exact ⟨_, by first | rfl | (simp [errW_none, errW_some] <;> rfl) | (simp [*, errW_none, errW_some] <;> rfl), by (with_reducible repeat (first | apply Kd.R_alloc | apply Kd.R_drewN | apply Kd.R_drew)); exact HO_3.out, by repeat (first | (with_reducible first | exact HB.out | apply below_alloc | apply pw_below_drewN | apply below_drew1) | exact HB.out)⟩
    · rw [if_neg c3] at H
      exact absurd H (by simp)
  · rw [if_neg c2] at H
    exact absurd H (by simp)

/-! ### impl_ConfigOk: function 33 -/
def impl_ConfigOk.f (a0_0 : Int) (a0_1 : Int) (a0_2 : Int) : Option (Bool) := if a0_0 ≥ 3 then (if a0_0 ≤ 12 then (if a0_1 ≥ 1 then (if a0_1 ≤ 3 then (if a0_2 ≥ 0 then (some (decide (a0_2 ≤ 100))) else (some false)) else (some false)) else (some false)) else (some false)) else (some false)
set_option maxHeartbeats 8000000 in
set_option maxRecDepth 100000 in
theorem impl_ConfigOk.calls (a0_0 : Int) (a0_1 : Int) (a0_2 : Int) (r : Bool) (w : World) (h : impl_ConfigOk.f a0_0 a0_1 a0_2 = some r) :
    Calls Try.prog 33 #[.agg #[.int .i64 a0_0, .int .i64 a0_1, .int .i64 a0_2]] w fun e w' => e = .returned (.bool r) ∧ Below w.heap.size w w' := by
  have hu39 := Try.underlying39
  have HB := Aside0.mk (Below.refl w.heap.size w)
  have H : (if a0_0 ≥ 3 then (if a0_0 ≤ 12 then (if a0_1 ≥ 1 then (if a0_1 ≤ 3 then (if a0_2 ≥ 0 then (some (decide (a0_2 ≤ 100))) else (some false)) else (some false)) else (some false)) else (some false)) else (some false)) = some r := h
  clear h
  by_cases c2 : a0_0 ≥ 3
  · rw [if_pos c2] at H
    have c2b0 : decide (3 ≤ a0_0) = true := decide_eq_true c2
    clear c2
    by_cases c3 : a0_0 ≤ 12
    · rw [if_pos c3] at H
      have c3b0 : decide (a0_0 ≤ 12) = true := decide_eq_true c3
      clear c3
      by_cases c4 : a0_1 ≥ 1
      · rw [if_pos c4] at H
        have c4b0 : decide (1 ≤ a0_1) = true := decide_eq_true c4
        clear c4
        by_cases c5 : a0_1 ≤ 3
        · rw [if_pos c5] at H
          have c5b0 : decide (a0_1 ≤ 3) = true := decide_eq_true c5
          clear c5
          by_cases c6 : a0_2 ≥ 0
          · rw [if_pos c6] at H
            have c6b0 : decide (0 ≤ a0_2) = true := decide_eq_true c6
            clear c6
            obtain rfl := Option.some.inj H
            go_enter Try.func33, Try.ntmps33
            go_wp2_with (first | ((with_reducible refine gate_dst (N := 1) rfl ?_); refine box_event ?hg (N := 1) ?hd (cs := #[.int .i64 a0_0, .int .i64 a0_1, .int .i64 a0_2]) (t := 39) ?hr ?_; (case hd => rfl); (case hg => rfl); (case hr => first | (go_simp; done) | (go_simp; rfl)); intro gb164 hg w7 hbox hb; have n0_ := Aside0.mk (below_step (by repeat (first | (with_reducible first | exact HB.out | apply below_alloc | apply pw_below_drewN | apply below_drew1) | exact HB.out)) hb); have n1_ := Aside0.mk (hbox); have n2_ := Aside0.mk ((by rw [hg]; exact (below_size (by repeat (first | (with_reducible first | exact HB.out | apply below_alloc | apply pw_below_drewN | apply below_drew1) | exact HB.out))) : w.heap.size ≤ gb164)); have n3_ := Aside0.mk ((by rw [hg]; exact (below_size (by repeat (first | (with_reducible first | exact HB.out | apply below_alloc | apply pw_below_drewN | apply below_drew1) | exact HB.out))) : w.heap.size ≤ gb164)); clear HB; have HB := n0_; have BK164 := n1_; have GW164 := n2_; have GE164 := n3_; clear n0_ n1_ n2_ n3_; clear hb hbox hg; have hcz8_0 : w7.cell? ⟨gb164, 0, none⟩ = some (.int .i64 a0_0) := (blk_cell BK164.out 0).trans rfl; have hcz8_1 : w7.cell? ⟨gb164, 1, none⟩ = some (.int .i64 a0_1) := (blk_cell BK164.out 1).trans rfl; have hcz8_2 : w7.cell? ⟨gb164, 2, none⟩ = some (.int .i64 a0_2) := (blk_cell BK164.out 2).trans rfl; have hfz8_0 := blk_frozen BK164.out 0; have hfz8_1 := blk_frozen BK164.out 1; have hfz8_2 := blk_frozen BK164.out 2))
            go_ret
            exact ⟨by first | rfl | (simp [errW_none, errW_some] <;> rfl) | (simp [*, errW_none, errW_some] <;> rfl), by repeat (first | (with_reducible first | exact HB.out | apply below_alloc | apply pw_below_drewN | apply below_drew1 | refine below_set ?_ GE164.out) | exact HB.out)⟩
          · rw [if_neg c6] at H
            have c6b0 : decide (0 ≤ a0_2) = false := decide_eq_false c6
            clear c6
            obtain rfl := Option.some.inj H
            go_enter Try.func33, Try.ntmps33
            go_wp2_with (first | ((with_reducible refine gate_dst (N := 1) rfl ?_); refine box_event ?hg (N := 1) ?hd (cs := #[.int .i64 a0_0, .int .i64 a0_1, .int .i64 a0_2]) (t := 39) ?hr ?_; (case hd => rfl); (case hg => rfl); (case hr => first | (go_simp; done) | (go_simp; rfl)); intro gb164 hg w9 hbox hb; have n0_ := Aside0.mk (below_step (by repeat (first | (with_reducible first | exact HB.out | apply below_alloc | apply pw_below_drewN | apply below_drew1) | exact HB.out)) hb); have n1_ := Aside0.mk (hbox); have n2_ := Aside0.mk ((by rw [hg]; exact (below_size (by repeat (first | (with_reducible first | exact HB.out | apply below_alloc | apply pw_below_drewN | apply below_drew1) | exact HB.out))) : w.heap.size ≤ gb164)); have n3_ := Aside0.mk ((by rw [hg]; exact (below_size (by repeat (first | (with_reducible first | exact HB.out | apply below_alloc | apply pw_below_drewN | apply below_drew1) | exact HB.out))) : w.heap.size ≤ gb164)); clear HB; have HB := n0_; have BK164 := n1_; have GW164 := n2_; have GE164 := n3_; clear n0_ n1_ n2_ n3_; clear hb hbox hg; have hcz10_0 : w9.cell? ⟨gb164, 0, none⟩ = some (.int .i64 a0_0) := (blk_cell BK164.out 0).trans rfl; have hcz10_1 : w9.cell? ⟨gb164, 1, none⟩ = some (.int .i64 a0_1) := (blk_cell BK164.out 1).trans rfl; have hcz10_2 : w9.cell? ⟨gb164, 2, none⟩ = some (.int .i64 a0_2) := (blk_cell BK164.out 2).trans rfl; have hfz10_0 := blk_frozen BK164.out 0; have hfz10_1 := blk_frozen BK164.out 1; have hfz10_2 := blk_frozen BK164.out 2))
            go_ret
            exact ⟨by first | rfl | (simp [errW_none, errW_some] <;> rfl) | (simp [*, errW_none, errW_some] <;> rfl), by repeat (first | (with_reducible first | exact HB.out | apply below_alloc | apply pw_below_drewN | apply below_drew1 | refine below_set ?_ GE164.out) | exact HB.out)⟩
        · rw [if_neg c5] at H
          have c5b0 : decide (a0_1 ≤ 3) = false := decide_eq_false c5
          clear c5
          obtain rfl := Option.some.inj H
          go_enter Try.func33, Try.ntmps33
          go_wp2_with (first | ((with_reducible refine gate_dst (N := 1) rfl ?_); refine box_event ?hg (N := 1) ?hd (cs := #[.int .i64 a0_0, .int .i64 a0_1, .int .i64 a0_2]) (t := 39) ?hr ?_; (case hd => rfl); (case hg => rfl); (case hr => first | (go_simp; done) | (go_simp; rfl)); intro gb164 hg w11 hbox hb; have n0_ := Aside0.mk (below_step (by repeat (first | (with_reducible first | exact HB.out | apply below_alloc | apply pw_below_drewN | apply below_drew1) | exact HB.out)) hb); have n1_ := Aside0.mk (hbox); have n2_ := Aside0.mk ((by rw [hg]; exact (below_size (by repeat (first | (with_reducible first | exact HB.out | apply below_alloc | apply pw_below_drewN | apply below_drew1) | exact HB.out))) : w.heap.size ≤ gb164)); have n3_ := Aside0.mk ((by rw [hg]; exact (below_size (by repeat (first | (with_reducible first | exact HB.out | apply below_alloc | apply pw_below_drewN | apply below_drew1) | exact HB.out))) : w.heap.size ≤ gb164)); clear HB; have HB := n0_; have BK164 := n1_; have GW164 := n2_; have GE164 := n3_; clear n0_ n1_ n2_ n3_; clear hb hbox hg; have hcz12_0 : w11.cell? ⟨gb164, 0, none⟩ = some (.int .i64 a0_0) := (blk_cell BK164.out 0).trans rfl; have hcz12_1 : w11.cell? ⟨gb164, 1, none⟩ = some (.int .i64 a0_1) := (blk_cell BK164.out 1).trans rfl; have hcz12_2 : w11.cell? ⟨gb164, 2, none⟩ = some (.int .i64 a0_2) := (blk_cell BK164.out 2).trans rfl; have hfz12_0 := blk_frozen BK164.out 0; have hfz12_1 := blk_frozen BK164.out 1; have hfz12_2 := blk_frozen BK164.out 2))
          go_ret
          exact ⟨by first | rfl | (simp [errW_none, errW_some] <;> rfl) | (simp [*, errW_none, errW_some] <;> rfl), by repeat (first | (with_reducible first | exact HB.out | apply below_alloc | apply pw_below_drewN | apply below_drew1 | refine below_set ?_ GE164.out) | exact HB.out)⟩
      · rw [if_neg c4] at H
        have c4b0 : decide (1 ≤ a0_1) = false := decide_eq_false c4
        clear c4
        obtain rfl := Option.some.inj H
        go_enter Try.func33, Try.ntmps33
        go_wp2_with (first | ((with_reducible refine gate_dst (N := 1) rfl ?_); refine box_event ?hg (N := 1) ?hd (cs := #[.int .i64 a0_0, .int .i64 a0_1, .int .i64 a0_2]) (t := 39) ?hr ?_; (case hd => rfl); (case hg => rfl); (case hr => first | (go_simp; done) | (go_simp; rfl)); intro gb164 hg w13 hbox hb; have n0_ := Aside0.mk (below_step (by repeat (first | (with_reducible first | exact HB.out | apply below_alloc | apply pw_below_drewN | apply below_drew1) | exact HB.out)) hb); have n1_ := Aside0.mk (hbox); have n2_ := Aside0.mk ((by rw [hg]; exact (below_size (by repeat (first | (with_reducible first | exact HB.out | apply below_alloc | apply pw_below_drewN | apply below_drew1) | exact HB.out))) : w.heap.size ≤ gb164)); have n3_ := Aside0.mk ((by rw [hg]; exact (below_size (by repeat (first | (with_reducible first | exact HB.out | apply below_alloc | apply pw_below_drewN | apply below_drew1) | exact HB.out))) : w.heap.size ≤ gb164)); clear HB; have HB := n0_; have BK164 := n1_; have GW164 := n2_; have GE164 := n3_; clear n0_ n1_ n2_ n3_; clear hb hbox hg; have hcz14_0 : w13.cell? ⟨gb164, 0, none⟩ = some (.int .i64 a0_0) := (blk_cell BK164.out 0).trans rfl; have hcz14_1 : w13.cell? ⟨gb164, 1, none⟩ = some (.int .i64 a0_1) := (blk_cell BK164.out 1).trans rfl; have hcz14_2 : w13.cell? ⟨gb164, 2, none⟩ = some (.int .i64 a0_2) := (blk_cell BK164.out 2).trans rfl; have hfz14_0 := blk_frozen BK164.out 0; have hfz14_1 := blk_frozen BK164.out 1; have hfz14_2 := blk_frozen BK164.out 2))
        go_ret
        exact ⟨by first | rfl | (simp [errW_none, errW_some] <;> rfl) | (simp [*, errW_none, errW_some] <;> rfl), by repeat (first | (with_reducible first | exact HB.out | apply below_alloc | apply pw_below_drewN | apply below_drew1 | refine below_set ?_ GE164.out) | exact HB.out)⟩
    · rw [if_neg c3] at H
      have c3b0 : decide (a0_0 ≤ 12) = false := decide_eq_false c3
      clear c3
      obtain rfl := Option.some.inj H
      go_enter Try.func33, Try.ntmps33
      go_wp2_with (first | ((with_reducible refine gate_dst (N := 1) rfl ?_); refine box_event ?hg (N := 1) ?hd (cs := #[.int .i64 a0_0, .int .i64 a0_1, .int .i64 a0_2]) (t := 39) ?hr ?_; (case hd => rfl); (case hg => rfl); (case hr => first | (go_simp; done) | (go_simp; rfl)); intro gb164 hg w15 hbox hb; have n0_ := Aside0.mk (below_step (by repeat (first | (with_reducible first | exact HB.out | apply below_alloc | apply pw_below_drewN | apply below_drew1) | exact HB.out)) hb); have n1_ := Aside0.mk (hbox); have n2_ := Aside0.mk ((by rw [hg]; exact (below_size (by repeat (first | (with_reducible first | exact HB.out | apply below_alloc | apply pw_below_drewN | apply below_drew1) | exact HB.out))) : w.heap.size ≤ gb164)); have n3_ := Aside0.mk ((by rw [hg]; exact (below_size (by repeat (first | (with_reducible first | exact HB.out | apply below_alloc | apply pw_below_drewN | apply below_drew1) | exact HB.out))) : w.heap.size ≤ gb164)); clear HB; have HB := n0_; have BK164 := n1_; have GW164 := n2_; have GE164 := n3_; clear n0_ n1_ n2_ n3_; clear hb hbox hg; have hcz16_0 : w15.cell? ⟨gb164, 0, none⟩ = some (.int .i64 a0_0) := (blk_cell BK164.out 0).trans rfl; have hcz16_1 : w15.cell? ⟨gb164, 1, none⟩ = some (.int .i64 a0_1) := (blk_cell BK164.out 1).trans rfl; have hcz16_2 : w15.cell? ⟨gb164, 2, none⟩ = some (.int .i64 a0_2) := (blk_cell BK164.out 2).trans rfl; have hfz16_0 := blk_frozen BK164.out 0; have hfz16_1 := blk_frozen BK164.out 1; have hfz16_2 := blk_frozen BK164.out 2))
      go_ret
      exact ⟨by first | rfl | (simp [errW_none, errW_some] <;> rfl) | (simp [*, errW_none, errW_some] <;> rfl), by repeat (first | (with_reducible first | exact HB.out | apply below_alloc | apply pw_below_drewN | apply below_drew1 | refine below_set ?_ GE164.out) | exact HB.out)⟩
  · rw [if_neg c2] at H
    have c2b0 : decide (3 ≤ a0_0) = false := decide_eq_false c2
    clear c2
    obtain rfl := Option.some.inj H
    go_enter Try.func33, Try.ntmps33
    go_wp2_with (first | ((with_reducible refine gate_dst (N := 1) rfl ?_); refine box_event ?hg (N := 1) ?hd (cs := #[.int .i64 a0_0, .int .i64 a0_1, .int .i64 a0_2]) (t := 39) ?hr ?_; (case hd => rfl); (case hg => rfl); (case hr => first | (go_simp; done) | (go_simp; rfl)); intro gb164 hg w17 hbox hb; have n0_ := Aside0.mk (below_step (by repeat (first | (with_reducible first | exact HB.out | apply below_alloc | apply pw_below_drewN | apply below_drew1) | exact HB.out)) hb); have n1_ := Aside0.mk (hbox); have n2_ := Aside0.mk ((by rw [hg]; exact (below_size (by repeat (first | (with_reducible first | exact HB.out | apply below_alloc | apply pw_below_drewN | apply below_drew1) | exact HB.out))) : w.heap.size ≤ gb164)); have n3_ := Aside0.mk ((by rw [hg]; exact (below_size (by repeat (first | (with_reducible first | exact HB.out | apply below_alloc | apply pw_below_drewN | apply below_drew1) | exact HB.out))) : w.heap.size ≤ gb164)); clear HB; have HB := n0_; have BK164 := n1_; have GW164 := n2_; have GE164 := n3_; clear n0_ n1_ n2_ n3_; clear hb hbox hg; have hcz18_0 : w17.cell? ⟨gb164, 0, none⟩ = some (.int .i64 a0_0) := (blk_cell BK164.out 0).trans rfl; have hcz18_1 : w17.cell? ⟨gb164, 1, none⟩ = some (.int .i64 a0_1) := (blk_cell BK164.out 1).trans rfl; have hcz18_2 : w17.cell? ⟨gb164, 2, none⟩ = some (.int .i64 a0_2) := (blk_cell BK164.out 2).trans rfl; have hfz18_0 := blk_frozen BK164.out 0; have hfz18_1 := blk_frozen BK164.out 1; have hfz18_2 := blk_frozen BK164.out 2))
    go_ret
    exact ⟨by first | rfl | (simp [errW_none, errW_some] <;> rfl) | (simp [*, errW_none, errW_some] <;> rfl), by repeat (first | (with_reducible first | exact HB.out | apply below_alloc | apply pw_below_drewN | apply below_drew1 | refine below_set ?_ GE164.out) | exact HB.out)⟩

-- NOT PRINTED: function 36 (impl_Op_36)

/-! ### impl_Op_34: function 34 -/
def impl_Op_34.f (l0 : List (List (S28))) : Option (Bool) := some (l0.any fun p => decide (40 < p.length))
instance : Inhabited (Option Addr × Nat × Nat) := ⟨(none, 0, 0)⟩
def rowV (x : Option Addr × Nat × Nat) : Value := .slice x.1 x.2.1 x.2.2
theorem pred35 (w : World) : PredAt Try.prog 35 #[] rowV (fun x => decide (40 < x.2.1)) w := fun W x _ => by
  obtain ⟨A, n, c⟩ := x
  show Calls Try.prog 35 #[.slice A n c] W _
  by_cases hn : 40 < n
  · have h0 : decide ((40 : Int) < (n : Int)) = true := decide_eq_true (by omega)
    have h1 : decide (40 < n) = true := decide_eq_true hn
    clear hn
    go_enter Try.func35, Try.ntmps35
    go_wp2
    go_ret
    exact ⟨by rw [h1]; first | rfl | simp_all, 0, rfl⟩
  · have h0 : decide ((40 : Int) < (n : Int)) = false := decide_eq_false (by omega)
    have h1 : decide (40 < n) = false := decide_eq_false hn
    clear hn
    go_enter Try.func35, Try.ntmps35
    go_wp2
    go_ret
    exact ⟨by rw [h1]; first | rfl | simp_all, 0, rfl⟩
theorem rows_of {w : World} {A0 : Option Addr} {l0 : List (List (S28))} (h : Kd.C (Kd.slice 28 k28) w A0 l0.length l0) (h0 : 0 < l0.length) :
    ∃ (b off : Nat) (zs : List (Option Addr × Nat × Nat)), A0 = some ⟨b, off, none⟩ ∧ zs.length = l0.length ∧ (∀ j (hj : j < zs.length), zs[j].2.1 = (l0.getD j []).length ∧ w.cell? ⟨b, off + j, none⟩ = some (rowV zs[j])) := by
  obtain ⟨hl, _, hc⟩ := h
  obtain ⟨ad, rfl, hc2⟩ := hc h0
  have one : ∀ j, j < l0.length → ∃ x : Option Addr × Nat × Nat, x.2.1 = (l0.getD j []).length ∧ w.cell? (ad.add j) = some (rowV x) := by
    intro j hj
    obtain ⟨c, hcl, hk, hcell⟩ := hc2 j l0[j] (List.getElem?_eq_getElem hj)
    obtain ⟨A, n, rfl, hn, _⟩ := hk
    refine ⟨(A, l0[j].length, n), by simp [List.getD, hj], ?_⟩
    have := hcell 0 _ rfl
    simpa [rowV, Kd.slice] using this
  have hspot : ad.spot = none := by
    obtain ⟨x, _, hx⟩ := one 0 h0
    simpa [Addr.add] using World.cell?_spot hx
  obtain ⟨b, off, spot⟩ := ad
  subst hspot
  have list : ∀ n, n ≤ l0.length → ∃ zs : List (Option Addr × Nat × Nat), zs.length = n ∧ ∀ j (hj : j < zs.length), zs[j].2.1 = (l0.getD j []).length ∧ w.cell? ⟨b, off + j, none⟩ = some (rowV zs[j]) := by
    intro n
    induction n with
    | zero => exact fun _ => ⟨[], rfl, fun j hj => by simp at hj⟩
    | succ n ih =>
      intro hn
      obtain ⟨zs, hz, hzs⟩ := ih (by omega)
      obtain ⟨x, hx1, hx2⟩ := one n (by omega)
      refine ⟨zs ++ [x], by simp [hz], fun j hj => ?_⟩
      simp at hj
      by_cases e : j < zs.length
      · rw [List.getElem_append_left e]
        exact hzs j e
      · obtain rfl : j = zs.length := by omega
        rw [List.getElem_append_right (Nat.le_refl _)]
        simp only [Nat.sub_self, List.getElem_cons_zero]
        rw [hz]
        rw [Go.WideShapes.add_plain] at hx2
        exact ⟨hx1, hx2⟩
  obtain ⟨zs, hz, hzs⟩ := list l0.length (Nat.le_refl _)
  exact ⟨b, off, zs, rfl, hz, hzs⟩
theorem any_same (l0 : List (List (S28))) (zs : List (Option Addr × Nat × Nat)) (hz : zs.length = l0.length) (h : ∀ j (hj : j < zs.length), zs[j].2.1 = (l0.getD j []).length) :
    zs.any (fun x => decide (40 < x.2.1)) = l0.any (fun p => decide (40 < p.length)) := by
  rw [Bool.eq_iff_iff, List.any_eq_true, List.any_eq_true]
  constructor
  · rintro ⟨x, hx, hp⟩
    obtain ⟨j, hj, rfl⟩ := List.getElem_of_mem hx
    have := h j hj
    refine ⟨l0[j]'(by omega), List.getElem_mem _, ?_⟩
    rw [this] at hp
    simpa [List.getD, show j < l0.length by omega] using hp
  · rintro ⟨p, hp, hq⟩
    obtain ⟨j, hj, rfl⟩ := List.getElem_of_mem hp
    refine ⟨zs[j]'(by omega), List.getElem_mem _, ?_⟩
    rw [h j (by omega)]
    simpa [List.getD, hj] using hq
theorem impl_Op_34.calls (A0 : Option Addr) (c0 : Nat) (l0 : List (List (S28))) (r : Bool) (w : World) (hr0 : Kd.C (Kd.slice 28 k28) w A0 l0.length l0) (hc0 : l0.length ≤ c0) (h : impl_Op_34.f l0 = some r) :
    Calls Try.prog 34 #[.slice A0 l0.length c0, .func (.func 35) #[] #[]] w fun e w' => e = .returned (.bool r) ∧ Drawn0 w w' := by
  have hm := hr0.2.1
  obtain rfl := Option.some.inj h
  rcases Nat.eq_zero_or_pos l0.length with h0 | h0
  · obtain rfl := List.length_eq_zero_iff.1 h0
    refine (AnyE.slices_ContainsFunc_empty Try.laysCF A0 c0 (.func (.func 35) #[] #[]) w).mono fun e w' he => ?_
    obtain ⟨he, hw⟩ := he
    subst hw
    exact ⟨he, Drawn0.refl _⟩
  · obtain ⟨b, off, zs, rfl, hz, hzs⟩ := rows_of hr0 h0
    have eg : ∀ args w, (callFunc 35 args).run Try.prog w = .ok (.enter 35 args) w := Go.Proofs.enters_of Try.func35 (by kernel_rfl) rfl
    refine (AnyE.slices_ContainsFunc Try.laysCF rowV (fun x => decide (40 < x.2.1)) 35 #[] eg b off l0.length c0 zs w (pred35 w) (by omega) hm (fun j hj => ?_)).mono fun e w' he => ?_
    · rw [getElem!_pos zs j hj]
      exact (hzs j hj).2
    · obtain ⟨he, q, hq⟩ := he
      rw [List.take_of_length_le (by omega), any_same l0 zs hz (fun j hj => (hzs j hj).1)] at he
      exact ⟨he, ⟨q, hq⟩⟩

/-! ### impl_progsOk: function 29 -/
def impl_progsOk.f (a0_0 : Int) (a0_1 : Int) (a0_2 : Int) (l1 : List (List (S28))) : Option (Bool) := (impl_ConfigOk.f a0_0 a0_1 a0_2).bind fun t166 => (if t166 = true then (if (l1.length : Int) = a0_1 then ((impl_Op_34.f l1).bind fun t167 => (some (!t167))) else (some false)) else (some false))
set_option maxHeartbeats 8000000 in
set_option maxRecDepth 100000 in
theorem impl_progsOk.calls (a0_0 : Int) (a0_1 : Int) (a0_2 : Int) (A1 : Option Addr) (c1 : Nat) (l1 : List (List (S28))) (r : Bool) (w : World) (hr1 : Kd.C (Kd.slice 28 k28) w A1 l1.length l1) (hc1 : l1.length ≤ c1) (h : impl_progsOk.f a0_0 a0_1 a0_2 l1 = some r) :
    Calls Try.prog 29 #[.agg #[.int .i64 a0_0, .int .i64 a0_1, .int .i64 a0_2], .slice A1 l1.length c1] w fun e w' => e = .returned (.bool r) ∧ Below w.heap.size w w' := by
  have hu39 := Try.underlying39
  have HR1 := Aside0.mk hr1
  have HC1 := Aside0.mk hc1
  clear hr1 hc1
  have HB := Aside0.mk (Below.refl w.heap.size w)
  have H : ((impl_ConfigOk.f a0_0 a0_1 a0_2).bind fun t166 => (if t166 = true then (if (l1.length : Int) = a0_1 then ((impl_Op_34.f l1).bind fun t167 => (some (!t167))) else (some false)) else (some false))) = some r := h
  clear h
  replace H := Option.bind_eq_some_iff.mp H
  obtain ⟨t166, A30, H⟩ := H
  replace H : (if t166 = true then (if (l1.length : Int) = a0_1 then ((impl_Op_34.f l1).bind fun t167 => (some (!t167))) else (some false)) else (some false)) = some r := H
  have A3 := Aside0.mk A30
  clear A30
  by_cases c4 : t166 = true
  · subst c4
    have H1 : (if (l1.length : Int) = a0_1 then ((impl_Op_34.f l1).bind fun t167 => (some (!t167))) else (some false)) = some r := by rw [if_pos rfl] at H; exact H
    clear H
    have H := H1
    clear H1
    by_cases c5 : (l1.length : Int) = a0_1
    · rw [if_pos c5] at H
      have c5b0 : ((l1.length : Int) == a0_1) = true := beq_iff_eq.mpr c5
      have c5b1 : ((l1.length : Int) != a0_1) = false := bne_eq_false_iff_eq.mpr c5
      clear c5
      replace H := Option.bind_eq_some_iff.mp H
      obtain ⟨t167, A60, H⟩ := H
      replace H : (some (!t167)) = some r := H
      have A6 := Aside0.mk A60
      clear A60
      obtain rfl := Option.some.inj H
      go_enter Try.func29, Try.ntmps29
      go_wp2_with (first | ((with_reducible refine gate_dst (N := 2) rfl ?_); (try (refine gate_guard (by rfl) ?_; dsimp only)); refine box_event ?hg (N := 2) ?hd (cs := #[.int .i64 a0_0, .int .i64 a0_1, .int .i64 a0_2]) (t := 39) ?hr ?_; (case hd => rfl); (case hg => rfl); (case hr => first | (go_simp; done) | (go_simp; rfl)); intro gb165 hg w7 hbox hb; have n0_ := Aside0.mk (below_step (by repeat (first | (with_reducible first | exact HB.out | apply below_alloc | apply pw_below_drewN | apply below_drew1) | exact HB.out)) hb); have n1_ := Aside0.mk (hbox); have n2_ := Aside0.mk ((by rw [hg]; exact (below_size (by repeat (first | (with_reducible first | exact HB.out | apply below_alloc | apply pw_below_drewN | apply below_drew1) | exact HB.out))) : w.heap.size ≤ gb165)); have n3_ := Aside0.mk ((by rw [hg]; exact (below_size (by repeat (first | (with_reducible first | exact HB.out | apply below_alloc | apply pw_below_drewN | apply below_drew1) | exact HB.out))) : w.heap.size ≤ gb165)); clear HB; have HB := n0_; have BK165 := n1_; have GW165 := n2_; have GE165 := n3_; clear n0_ n1_ n2_ n3_; clear hb hbox hg; have hcz8_0 : w7.cell? ⟨gb165, 0, none⟩ = some (.int .i64 a0_0) := (blk_cell BK165.out 0).trans rfl; have hcz8_1 : w7.cell? ⟨gb165, 1, none⟩ = some (.int .i64 a0_1) := (blk_cell BK165.out 1).trans rfl; have hcz8_2 : w7.cell? ⟨gb165, 2, none⟩ = some (.int .i64 a0_2) := (blk_cell BK165.out 2).trans rfl; have hfz8_0 := blk_frozen BK165.out 0; have hfz8_1 := blk_frozen BK165.out 1; have hfz8_2 := blk_frozen BK165.out 2) | ((with_reducible refine gate_callee (f := 33) rfl ?_); refine goesL_ (some 6) rfl rfl Try.func33 (by kernel_rfl) rfl #[.agg #[.int .i64 a0_0, .int .i64 a0_1, .int .i64 a0_2]] rfl (by (try simp only [List.map_toArray, List.map_cons, List.map_nil]); first | done | rfl | (simp only [List.length_drop, List.length_take]; rfl)) ?_; (with_reducible refine (impl_ConfigOk.calls a0_0 a0_1 a0_2 true _ A3.out).mono ?_); rintro e w9 ⟨rfl, hb⟩; refine ⟨_, rfl, ?_⟩; have n0_ := Aside0.mk (blk_below (g := gb165) (o := .cells #[.int .i64 a0_0, .int .i64 a0_1, .int .i64 a0_2] 39 (0, 0)) (by (with_reducible repeat (first | refine blk_drewN ?_ _ | refine blk_drew ?_ | refine blk_alloc ?_ _)); exact BK165.out) hb); have n1_ := Aside0.mk (below_step (by repeat (first | (with_reducible first | exact HB.out | apply below_alloc | apply pw_below_drewN | apply below_drew1 | refine below_set ?_ GE165.out) | exact HB.out)) hb); clear BK165; clear HB; have BK165 := n0_; have HB := n1_; clear n0_ n1_; (try clear hb); (try clear hb2); (try clear hk); (try clear hi); have hcz10_0 : w9.cell? ⟨gb165, 0, none⟩ = some (.int .i64 a0_0) := (blk_cell BK165.out 0).trans rfl; have hcz10_1 : w9.cell? ⟨gb165, 1, none⟩ = some (.int .i64 a0_1) := (blk_cell BK165.out 1).trans rfl; have hcz10_2 : w9.cell? ⟨gb165, 2, none⟩ = some (.int .i64 a0_2) := (blk_cell BK165.out 2).trans rfl; have hfz10_0 := blk_frozen BK165.out 0; have hfz10_1 := blk_frozen BK165.out 1; have hfz10_2 := blk_frozen BK165.out 2) | (go_at_call 34; (with_reducible refine (impl_Op_34.calls _ _ l1 t167 _ ?side1 ?side2 A6.out).mono ?_); (case side1 => repeat (first | exact (Kd.C_below HR1.out HB.out) | (with_reducible refine Kd.C_alloc ?_ _) | (with_reducible refine Kd.C_drewN ?_ _) | (with_reducible refine Kd.C_drew ?_))); (case side2 => exact HC1.out); rintro e w' ⟨rfl, ⟨nd, rfl⟩⟩))
      go_ret
      exact ⟨by first | rfl | (simp [errW_none, errW_some] <;> rfl) | (simp [*, errW_none, errW_some] <;> rfl), by repeat (first | (with_reducible first | exact HB.out | apply below_alloc | apply pw_below_drewN | apply below_drew1 | refine below_set ?_ GE165.out) | exact HB.out)⟩
    · rw [if_neg c5] at H
      have c5b0 : ((l1.length : Int) == a0_1) = false := beq_eq_false_iff_ne.mpr c5
      have c5b1 : ((l1.length : Int) != a0_1) = true := bne_iff_ne.mpr c5
      obtain rfl := Option.some.inj H
      go_enter Try.func29, Try.ntmps29
      go_wp2_with (first | ((with_reducible refine gate_dst (N := 2) rfl ?_); (try (refine gate_guard (by rfl) ?_; dsimp only)); refine box_event ?hg (N := 2) ?hd (cs := #[.int .i64 a0_0, .int .i64 a0_1, .int .i64 a0_2]) (t := 39) ?hr ?_; (case hd => rfl); (case hg => rfl); (case hr => first | (go_simp; done) | (go_simp; rfl)); intro gb165 hg w11 hbox hb; have n0_ := Aside0.mk (below_step (by repeat (first | (with_reducible first | exact HB.out | apply below_alloc | apply pw_below_drewN | apply below_drew1) | exact HB.out)) hb); have n1_ := Aside0.mk (hbox); have n2_ := Aside0.mk ((by rw [hg]; exact (below_size (by repeat (first | (with_reducible first | exact HB.out | apply below_alloc | apply pw_below_drewN | apply below_drew1) | exact HB.out))) : w.heap.size ≤ gb165)); have n3_ := Aside0.mk ((by rw [hg]; exact (below_size (by repeat (first | (with_reducible first | exact HB.out | apply below_alloc | apply pw_below_drewN | apply below_drew1) | exact HB.out))) : w.heap.size ≤ gb165)); clear HB; have HB := n0_; have BK165 := n1_; have GW165 := n2_; have GE165 := n3_; clear n0_ n1_ n2_ n3_; clear hb hbox hg; have hcz12_0 : w11.cell? ⟨gb165, 0, none⟩ = some (.int .i64 a0_0) := (blk_cell BK165.out 0).trans rfl; have hcz12_1 : w11.cell? ⟨gb165, 1, none⟩ = some (.int .i64 a0_1) := (blk_cell BK165.out 1).trans rfl; have hcz12_2 : w11.cell? ⟨gb165, 2, none⟩ = some (.int .i64 a0_2) := (blk_cell BK165.out 2).trans rfl; have hfz12_0 := blk_frozen BK165.out 0; have hfz12_1 := blk_frozen BK165.out 1; have hfz12_2 := blk_frozen BK165.out 2) | ((with_reducible refine gate_callee (f := 33) rfl ?_); refine goesL_ (some 6) rfl rfl Try.func33 (by kernel_rfl) rfl #[.agg #[.int .i64 a0_0, .int .i64 a0_1, .int .i64 a0_2]] rfl (by (try simp only [List.map_toArray, List.map_cons, List.map_nil]); first | done | rfl | (simp only [List.length_drop, List.length_take]; rfl)) ?_; (with_reducible refine (impl_ConfigOk.calls a0_0 a0_1 a0_2 true _ A3.out).mono ?_); rintro e w13 ⟨rfl, hb⟩; refine ⟨_, rfl, ?_⟩; have n0_ := Aside0.mk (blk_below (g := gb165) (o := .cells #[.int .i64 a0_0, .int .i64 a0_1, .int .i64 a0_2] 39 (0, 0)) (by (with_reducible repeat (first | refine blk_drewN ?_ _ | refine blk_drew ?_ | refine blk_alloc ?_ _)); exact BK165.out) hb); have n1_ := Aside0.mk (below_step (by repeat (first | (with_reducible first | exact HB.out | apply below_alloc | apply pw_below_drewN | apply below_drew1 | refine below_set ?_ GE165.out) | exact HB.out)) hb); clear BK165; clear HB; have BK165 := n0_; have HB := n1_; clear n0_ n1_; (try clear hb); (try clear hb2); (try clear hk); (try clear hi); have hcz14_0 : w13.cell? ⟨gb165, 0, none⟩ = some (.int .i64 a0_0) := (blk_cell BK165.out 0).trans rfl; have hcz14_1 : w13.cell? ⟨gb165, 1, none⟩ = some (.int .i64 a0_1) := (blk_cell BK165.out 1).trans rfl; have hcz14_2 : w13.cell? ⟨gb165, 2, none⟩ = some (.int .i64 a0_2) := (blk_cell BK165.out 2).trans rfl; have hfz14_0 := blk_frozen BK165.out 0; have hfz14_1 := blk_frozen BK165.out 1; have hfz14_2 := blk_frozen BK165.out 2))
      go_ret
      exact ⟨by first | rfl | (simp [errW_none, errW_some] <;> rfl) | (simp [*, errW_none, errW_some] <;> rfl), by repeat (first | (with_reducible first | exact HB.out | apply below_alloc | apply pw_below_drewN | apply below_drew1 | refine below_set ?_ GE165.out) | exact HB.out)⟩
  · replace c4 := Bool.eq_false_iff.mpr c4
    subst c4
    have H1 : (some false) = some r := by rw [if_neg (show ¬ (false = true) by decide)] at H; exact H
    clear H
    have H := H1
    clear H1
    obtain rfl := Option.some.inj H
    go_enter Try.func29, Try.ntmps29
    go_wp2_with (first | ((with_reducible refine gate_dst (N := 2) rfl ?_); (try (refine gate_guard (by rfl) ?_; dsimp only)); refine box_event ?hg (N := 2) ?hd (cs := #[.int .i64 a0_0, .int .i64 a0_1, .int .i64 a0_2]) (t := 39) ?hr ?_; (case hd => rfl); (case hg => rfl); (case hr => first | (go_simp; done) | (go_simp; rfl)); intro gb165 hg w15 hbox hb; have n0_ := Aside0.mk (below_step (by repeat (first | (with_reducible first | exact HB.out | apply below_alloc | apply pw_below_drewN | apply below_drew1) | exact HB.out)) hb); have n1_ := Aside0.mk (hbox); have n2_ := Aside0.mk ((by rw [hg]; exact (below_size (by repeat (first | (with_reducible first | exact HB.out | apply below_alloc | apply pw_below_drewN | apply below_drew1) | exact HB.out))) : w.heap.size ≤ gb165)); have n3_ := Aside0.mk ((by rw [hg]; exact (below_size (by repeat (first | (with_reducible first | exact HB.out | apply below_alloc | apply pw_below_drewN | apply below_drew1) | exact HB.out))) : w.heap.size ≤ gb165)); clear HB; have HB := n0_; have BK165 := n1_; have GW165 := n2_; have GE165 := n3_; clear n0_ n1_ n2_ n3_; clear hb hbox hg; have hcz16_0 : w15.cell? ⟨gb165, 0, none⟩ = some (.int .i64 a0_0) := (blk_cell BK165.out 0).trans rfl; have hcz16_1 : w15.cell? ⟨gb165, 1, none⟩ = some (.int .i64 a0_1) := (blk_cell BK165.out 1).trans rfl; have hcz16_2 : w15.cell? ⟨gb165, 2, none⟩ = some (.int .i64 a0_2) := (blk_cell BK165.out 2).trans rfl; have hfz16_0 := blk_frozen BK165.out 0; have hfz16_1 := blk_frozen BK165.out 1; have hfz16_2 := blk_frozen BK165.out 2) | ((with_reducible refine gate_callee (f := 33) rfl ?_); refine goesL_ (some 6) rfl rfl Try.func33 (by kernel_rfl) rfl #[.agg #[.int .i64 a0_0, .int .i64 a0_1, .int .i64 a0_2]] rfl (by (try simp only [List.map_toArray, List.map_cons, List.map_nil]); first | done | rfl | (simp only [List.length_drop, List.length_take]; rfl)) ?_; (with_reducible refine (impl_ConfigOk.calls a0_0 a0_1 a0_2 false _ A3.out).mono ?_); rintro e w17 ⟨rfl, hb⟩; refine ⟨_, rfl, ?_⟩; have n0_ := Aside0.mk (blk_below (g := gb165) (o := .cells #[.int .i64 a0_0, .int .i64 a0_1, .int .i64 a0_2] 39 (0, 0)) (by (with_reducible repeat (first | refine blk_drewN ?_ _ | refine blk_drew ?_ | refine blk_alloc ?_ _)); exact BK165.out) hb); have n1_ := Aside0.mk (below_step (by repeat (first | (with_reducible first | exact HB.out | apply below_alloc | apply pw_below_drewN | apply below_drew1 | refine below_set ?_ GE165.out) | exact HB.out)) hb); clear BK165; clear HB; have BK165 := n0_; have HB := n1_; clear n0_ n1_; (try clear hb); (try clear hb2); (try clear hk); (try clear hi)))
    go_ret
    exact ⟨by first | rfl | (simp [errW_none, errW_some] <;> rfl) | (simp [*, errW_none, errW_some] <;> rfl), by repeat (first | (with_reducible first | exact HB.out | apply below_alloc | apply pw_below_drewN | apply below_drew1 | refine below_set ?_ GE165.out) | exact HB.out)⟩

/-! ### impl_HistOk: function 21 -/
def histI15 (L : List (List S28)) (C : List S69) (nx ls : List Int) (en : List Bool) (z n : Int) (x : S69) : Prop := x.f0 < 0 ∨ x.f0 ≥ n ∨ x.f2 < 0 ∨ (z > 0 ∧ (rd_T69 C (z - 1)).f2 ≥ x.f2) ∨ x.f1 ≠ rd nx x.f0 ∨ x.f1 ≥ ((rd_L6 L x.f0).length : Int) ∨ rdOf false en x.f0 = true ∨ x.f2 ≤ rd ls x.f0
instance (L : List (List S28)) (C : List S69) (nx ls : List Int) (en : List Bool) (z n : Int) (x : S69) : Decidable (histI15 L C nx ls en z n x) := by unfold histI15; infer_instance
def impl_HistOk.go (L : List (List S28)) (C : List S69) (n : Int) : Nat → Int → List Int → List Int → List Bool → Bool
  | 0, _, _, _, _ => true
  | d + 1, z, nx, ls, en => if histI15 L C nx ls en z n (rd_T69 C z) then false else if (rd_T69 C z).f3 = -1 then (if (rd_T69 C z).f4 ≠ 0 ∨ (rd_T69 C z).f5 ≠ 0 then false else
      impl_HistOk.go L C n d (z + 1) (nx.set (rd_T69 C z).f0.toNat (wrap64 (rd nx (rd_T69 C z).f0 + 1))) (ls.set (rd_T69 C z).f0.toNat (rd_T69 C z).f3) (en.set (rd_T69 C z).f0.toNat true)) else
      if (rd_T69 C z).f3 < (rd_T69 C z).f2 then false else impl_HistOk.go L C n d (z + 1) (nx.set (rd_T69 C z).f0.toNat (wrap64 (rd nx (rd_T69 C z).f0 + 1))) (ls.set (rd_T69 C z).f0.toNat (rd_T69 C z).f3) en
def impl_HistOk.f (_k : Nat) (a n c : Int) (L : List (List S28)) (C : List S69) : Option Bool := (impl_progsOk.f a n c L).bind fun t => if t = true then (if (1 ≤ n ∧ n ≤ 3) ∧ (L.length : Int) = n ∧ C.length ≤ 1048576 then some (impl_HistOk.go L C n C.length 0 (List.replicate n.toNat 0) (List.replicate n.toNat (-1)) (List.replicate n.toNat false)) else none) else some false
theorem impl_HistOk.mono : ∀ a0 a1 a2 a3 a4 k, LeO (impl_HistOk.f k a0 a1 a2 a3 a4) (impl_HistOk.f (k + 1) a0 a1 a2 a3 a4) := fun _ _ _ _ _ _ => LeO.refl _
structure HE (w0 W : World) (bc gn gl ge : Nat) (a n c : Int) (nx ls : List Int) (en : List Bool) : Prop where
  hs : HS w0 W bc gn gl a n c nx ls
  ke : W.heap[ge]? = some (.cells (en.map Value.bool).toArray 4 (0, 0))
  le : (en.length : Int) = n
  ne : w0.heap.size ≤ ge
theorem HE.alloc {w0 W : World} {bc gn gl ge : Nat} {a n c : Int} {nx ls : List Int} {en : List Bool} (h : HE w0 W bc gn gl ge a n c nx ls en) (o : Obj) : HE w0 (W.alloc o) bc gn gl ge a n c nx ls en := ⟨h.hs.alloc o, blk_alloc h.ke o, h.le, h.ne⟩
theorem HE.drewN {w0 W : World} {bc gn gl ge : Nat} {a n c : Int} {nx ls : List Int} {en : List Bool} (h : HE w0 W bc gn gl ge a n c nx ls en) (m : Nat) : HE w0 (W.drewN m) bc gn gl ge a n c nx ls en := ⟨h.hs.drewN m, blk_drewN h.ke m, h.le, h.ne⟩
theorem HE.setn {w0 W : World} {bc gn gl ge : Nat} {a n c : Int} {nx ls : List Int} {en : List Bool} (h : HE w0 W bc gn gl ge a n c nx ls en) (j : Nat) (v : Int) : HE w0 (W.setCell ⟨gn, j, none⟩ (.int .i64 v)) bc gn gl ge a n c (nx.set j v) ls en := ⟨h.hs.setn j v, blk_far h.ke (p := ⟨gn, j, none⟩) (blk_ne h.ke h.hs.kn (by decide)) _, h.le, h.ne⟩
theorem HE.setb {w0 W : World} {bc gn gl ge : Nat} {a n c : Int} {nx ls : List Int} {en : List Bool} (h : HE w0 W bc gn gl ge a n c nx ls en) (j : Nat) (v : Int) : HE w0 (W.setCell ⟨gl, j, none⟩ (.int .i64 v)) bc gn gl ge a n c nx (ls.set j v) en := ⟨h.hs.setb j v, blk_far h.ke (p := ⟨gl, j, none⟩) (blk_ne h.ke h.hs.kb (by decide)) _, h.le, h.ne⟩
theorem HE.sete {w0 W : World} {bc gn gl ge : Nat} {a n c : Int} {nx ls : List Int} {en : List Bool} (h : HE w0 W bc gn gl ge a n c nx ls en) (j : Nat) (v : Bool) : HE w0 (W.setCell ⟨ge, j, none⟩ (.bool v)) bc gn gl ge a n c nx ls (en.set j v) :=
  ⟨⟨below_set h.hs.below h.ne, blk_far h.hs.kc (p := ⟨ge, j, none⟩) (blk_ne h.hs.kc h.ke (by decide)) _, blk_far h.hs.kn (p := ⟨ge, j, none⟩) (blk_ne h.hs.kn h.ke (by decide)) _, blk_far h.hs.kb (p := ⟨ge, j, none⟩) (blk_ne h.hs.kb h.ke (by decide)) _, h.hs.ln, h.hs.lb, h.hs.ne, h.hs.nn, h.hs.nb⟩,
    blk_put h.ke j _ (by simp [List.map_set]), by rw [List.length_set]; exact h.le, h.ne⟩
theorem bools_cell {W : World} {g : Nat} {l : List Bool} (h : W.heap[g]? = some (.cells (l.map Value.bool).toArray 4 (0, 0))) (z : Int) (h0 : 0 ≤ z) (h1 : z < (l.length : Int)) : W.cell? ⟨g, z.toNat, none⟩ = some (.bool (rdOf false l z)) := by
  refine (blk_cell h z.toNat).trans ?_
  have hz : z.toNat < l.length := by omega
  simp [rdOf, List.getD, hz]
theorem makeb_1 : ∀ (W : World), (Instr.makeSlice 72 (.int .i64 1) (.int .i64 1)).run Try.prog W = .ok (.slice (some ⟨W.heap.size, 0, none⟩) 1 1) (W.alloc (.cells #[.bool false] 4)) := fun _ => by kernel_rfl
theorem makeb_2 : ∀ (W : World), (Instr.makeSlice 72 (.int .i64 2) (.int .i64 2)).run Try.prog W = .ok (.slice (some ⟨W.heap.size, 0, none⟩) 2 2) (W.alloc (.cells #[.bool false, .bool false] 4)) := fun _ => by kernel_rfl
theorem makeb_3 : ∀ (W : World), (Instr.makeSlice 72 (.int .i64 3) (.int .i64 3)).run Try.prog W = .ok (.slice (some ⟨W.heap.size, 0, none⟩) 3 3) (W.alloc (.cells #[.bool false, .bool false, .bool false] 4)) := fun _ => by kernel_rfl
theorem makeb_n (n : Nat) (h : n = 1 ∨ n = 2 ∨ n = 3) : ∀ (W : World), (Instr.makeSlice 72 (.int .i64 (n : Int)) (.int .i64 (n : Int))).run Try.prog W = .ok (.slice (some ⟨W.heap.size, 0, none⟩) n n) (W.alloc (.cells ((List.replicate n false).map Value.bool).toArray 4)) := by
  rcases h with rfl | rfl | rfl
  · exact makeb_1
  · exact makeb_2
  · exact makeb_3
theorem fill_all (ls : List Int) (n : Nat) (hl : ls.length = n) (h : ∀ j, j < n → ls[j]? = some (-1)) : ls = List.replicate n (-1) := by
  apply List.ext_getElem?
  intro j
  by_cases hj : j < n
  · rw [h j hj]
    simp [hj]
  · rw [List.getElem?_eq_none (by omega), List.getElem?_eq_none (by simp; omega)]
theorem fill_step (ls : List Int) (i : Nat) (hi : i < ls.length) (h : ∀ j, j < i → ls[j]? = some (-1)) : ∀ j, j < i + 1 → (ls.set i (-1))[j]? = some (-1) := by
  intro j hj
  rw [List.getElem?_set]
  by_cases e : i = j
  · rw [if_pos e, if_pos (by omega)]
  · rw [if_neg e]
    exact h j (by omega)

set_option maxHeartbeats 16000000 in
set_option maxRecDepth 100000 in
theorem impl_HistOk.calls (k : Nat) (a n c : Int) (A1 : Option Addr) (c1 : Nat) (l1 : List (List S28)) (A2 : Option Addr) (c2 : Nat) (l2 : List S69) (r : Bool) (w : World) (hr1 : Kd.C (Kd.slice 28 k28) w A1 l1.length l1) (hc1 : l1.length ≤ c1) (hr2 : Kd.C k69 w A2 l2.length l2) (hc2 : l2.length ≤ c2) (h : impl_HistOk.f k a n c l1 l2 = some r) :
    Calls Try.prog 21 #[.agg #[.int .i64 a, .int .i64 n, .int .i64 c], .slice A1 l1.length c1, .slice A2 l2.length c2] w fun e w' => e = .returned (.bool r) ∧ Below w.heap.size w w' := by
  obtain ⟨t, FS, h⟩ := Option.bind_eq_some_iff.1 h
  obtain ⟨w1, hw1⟩ : ∃ w1, w1 = w.alloc (.cells #[.int .i64 a, .int .i64 n, .int .i64 c] 39) := ⟨_, rfl⟩
  have hb1 : Below w.heap.size w w1 := by rw [hw1]; exact below_alloc (Below.refl _ _) _
  have k1 : w1.heap[w.heap.size]? = some (.cells #[.int .i64 a, .int .i64 n, .int .i64 c] 39 (0, 0)) := by rw [hw1]; exact blk_new w _
  have cs := impl_progsOk.calls a n c A1 c1 l1 t w1 (Kd.C_below hr1 hb1) hc1 FS
  have HB1 := Aside0.mk hb1
  have K1 := Aside0.mk k1
  have HR1 := Aside0.mk hr1
  have HR2 := Aside0.mk hr2
  clear hb1 k1 hr1 hr2 FS
  by_cases ht : t = true
  · subst ht
    rw [if_pos rfl] at h
    by_cases hn : (1 ≤ n ∧ n ≤ 3) ∧ (l1.length : Int) = n ∧ l2.length ≤ 1048576
    · rw [if_pos hn] at h
      obtain ⟨hn1, hn2, hn3⟩ := hn
      obtain ⟨n, rfl⟩ : ∃ m : Nat, n = (m : Int) := ⟨n.toNat, by omega⟩
      rw [Int.toNat_natCast] at h
      obtain ⟨zs, hzs⟩ : ∃ zs : Array Value, zs = ((List.replicate n (0 : Int)).map (Value.int .i64)).toArray := ⟨_, rfl⟩
      have hmk := make_n n (by omega)
      rw [← hzs] at hmk
      have HZ := Aside0.mk hzs
      clear hzs
      obtain ⟨bs, hbs⟩ : ∃ bs : Array Value, bs = ((List.replicate n false).map Value.bool).toArray := ⟨_, rfl⟩
      have hmkb := makeb_n n (by omega)
      rw [← hbs] at hmkb
      have HBS := Aside0.mk hbs
      clear hbs
      have GO := Aside0.mk (Option.some.inj h)
      have HN := Aside0.mk (And.intro hn1 (And.intro hn2 hn3))
      clear h hn1 hn2 hn3
      go_enter Try.func21, Try.ntmps21
      go_wp2_with (go_at_call 29; rw [← hw1]; refine cs.mono ?_; rintro e w2 ⟨rfl, hb2⟩; have B2 := Aside0.mk (below_step HB1.out hb2); have kc := blk_below K1.out hb2; have q1 := (blk_cell kc 1).trans (show _ = some (Value.int .i64 (n : Int)) from rfl); have q2 : (w2.alloc (.cells zs 3)).cell? ⟨w.heap.size, 1, none⟩ = some (.int .i64 (n : Int)) := (blk_cell (blk_alloc kc _) 1).trans rfl; have HS0 := Aside0.mk (hs_start HZ.out B2.out kc); clear cs hb2 kc)
      go_loopg [26] n (fun gg v26 wr => ∃ (z : Int) (i : Nat) (ls : List Int), n - i ≤ gg ∧ v26 = .int .i64 z ∧ Aside0 (i ≤ n ∧ z = (i : Int)) ∧ Aside0 (HS w wr w.heap.size w2.heap.size (w2.heap.size + 1) a (n : Int) c (List.replicate n 0) ls) ∧ Aside0 (∀ j, j < i → ls[j]? = some (-1)))
      case atStart => exact ⟨0, 0, _, by omega, rfl, ⟨by simp⟩, HS0, ⟨fun j hj => by omega⟩⟩
      case round =>
        clear HS0 q1 q2 hmk
        obtain ⟨z, i, ls, hg, rfl, HI, HQ, HF⟩ := hrel
        by_cases hlt : i < n
        · have z0 : 0 ≤ z := by have := HI.out; omega
          have z1 : z < (n : Int) := by have := HI.out; omega
          have dz : decide (z < (n : Int)) = true := decide_eq_true z1
          have dz0 : decide (0 ≤ z) = true := decide_eq_true z0
          have HZ2 := Aside0.mk (And.intro z0 z1)
          have n1 := ints_cell HQ.out.kb z z0 (by rw [HQ.out.lb]; exact z1)
          have fz := blk_frozen HQ.out.kb z.toNat
          replace z0 := eq_true z0
          replace z1 := eq_true z1
          go_wp2_with ((with_reducible refine gate_store (t := 3) (p := 31) rfl ?_); refine store_event (t := 3) (p := 31) (v := ?vo_31) (w1 := (wr.setCell ⟨w2.heap.size + 1, z.toNat, none⟩ (.int .i64 (-1)))) ?hg ?ho ?hn ?hr ?_; (case ho => rfl); (case hg => rfl); (case hn => rfl); (case hr => first | (go_simp; done) | (go_simp; rfl)); intro w5 hw; have HQ5 := Aside0.mk (show HS w w5 w.heap.size w2.heap.size (w2.heap.size + 1) a (n : Int) c (List.replicate n 0) (ls.set z.toNat (-1)) from by rw [hw]; exact HQ.out.setb _ _); have HLB := Aside0.mk HQ.out.lb; clear HQ hw n1 fz)
          go_roundg (n - (i + 1))
          case measure => omega
          case rel =>
            have hi_ := HI.out
            have hn_ := HN.out
            have hl_ := HLB.out
            have hw_ : wrap64 (z + 1) = z + 1 := by unfold wrap64; omega
            have e_ : z.toNat = i := by omega
            refine ⟨wrap64 (z + 1), i + 1, _, by omega, rfl, ⟨by omega, by rw [hw_]; omega⟩, HQ5, ⟨?_⟩⟩
            rw [e_]
            exact fill_step ls i (by omega) HF.out
        · have dz : decide (z < (n : Int)) = false := decide_eq_false (by have := HI.out; omega)
          have q3 := (blk_cell HQ.out.kc 1).trans (show _ = some (Value.int .i64 (n : Int)) from rfl)
          have LS := Aside0.mk (fill_all ls n (by have := HQ.out.lb; omega) (fun j hj => HF.out j (by omega)))
          clear hlt
          go_wp2
          obtain ⟨ge, hge⟩ : ∃ ge, ge = wr.heap.size := ⟨_, rfl⟩
          have HE0 := Aside0.mk (show HE w (wr.alloc (.cells bs 4)) w.heap.size w2.heap.size (w2.heap.size + 1) ge a (n : Int) c (List.replicate n 0) (List.replicate n (-1)) (List.replicate n false) from by rw [hge, HBS.out, ← LS.out]; exact ⟨HQ.out.alloc _, blk_new wr _, by simp, HQ.out.below.size⟩)
          rw [← hge]
          clear hge HQ HF LS q3 dz HI hmkb
          go_loopg [38] l2.length (fun gg v38 wr => ∃ (z : Int) (i d : Nat) (nx ls : List Int) (en : List Bool), d ≤ gg ∧ v38 = .int .i64 z ∧ Aside0 (i + d = l2.length ∧ z = (i : Int)) ∧ Aside0 (HE w wr w.heap.size w2.heap.size (w2.heap.size + 1) ge a (n : Int) c nx ls en) ∧ Aside0 (impl_HistOk.go l1 l2 (n : Int) d z nx ls en = r))
          case atStart => exact ⟨0, 0, l2.length, _, _, _, Nat.le_refl _, rfl, ⟨by simp⟩, HE0, GO⟩
          case round =>
            clear HE0 GO
            obtain ⟨z, i, d, nx, ls, en, hg, rfl, HI, HQ, HG⟩ := hrel
            cases d with
            | zero =>
              have cz : decide (z < (l2.length : Int)) = false := decide_eq_false (by have := HI.out; omega)
              obtain rfl : true = r := HG.out
              go_wp2
              go_ret
              exact ⟨rfl, HQ.out.hs.below⟩
            | succ d =>
              have cz : decide (z < (l2.length : Int)) = true := decide_eq_true (by have := HI.out; omega)
              have z0 : 0 ≤ z := by have := HI.out; omega
              have z1 : z < (l2.length : Int) := by have := HI.out; omega
              have cz0 : decide (0 ≤ z) = true := decide_eq_true z0
              obtain ⟨ad, ead, hx0, hx1, hx2, hx3, hx4, hx5⟩ := at_T69 HR2.out z z0 z1
              subst ead
              have PV := Aside0.mk (fun (h : z > 0) => at_T69 HR2.out (z - 1) (by omega) (by omega))
              replace hx0 := (HQ.out.hs.below.cell (World.block_lt_of_cell? w _ hx0)).trans hx0
              replace hx1 := (HQ.out.hs.below.cell (World.block_lt_of_cell? w _ hx1)).trans hx1
              replace hx2 := (HQ.out.hs.below.cell (World.block_lt_of_cell? w _ hx2)).trans hx2
              replace hx3 := (HQ.out.hs.below.cell (World.block_lt_of_cell? w _ hx3)).trans hx3
              replace hx4 := (HQ.out.hs.below.cell (World.block_lt_of_cell? w _ hx4)).trans hx4
              replace hx5 := (HQ.out.hs.below.cell (World.block_lt_of_cell? w _ hx5)).trans hx5
              have ZZ := Aside0.mk (And.intro z0 z1)
              replace z0 := eq_true z0
              replace z1 := eq_true z1
              generalize hX : rd_T69 l2 z = x at hx0 hx1 hx2 hx3 hx4 hx5
              have HX := Aside0.mk hX
              have HG2 := Aside0.mk (HG.out)
              clear HG hX
              go_upto_region 15 with (fail)
              obtain ⟨w3, hw3⟩ : ∃ w3, w3 = wr.alloc (.cells #[.int .i64 x.f0, .int .i64 x.f1, .int .i64 x.f2, .int .i64 x.f3, .int .i64 x.f4, .int .i64 x.f5] 69) := ⟨_, rfl⟩
              have HS3 := Aside0.mk (show HE w w3 w.heap.size w2.heap.size (w2.heap.size + 1) ge a (n : Int) c nx ls en from by rw [hw3]; exact HQ.out.alloc _)
              have BX := Aside0.mk (show w3.heap[wr.heap.size]? = some (.cells #[.int .i64 x.f0, .int .i64 x.f1, .int .i64 x.f2, .int .i64 x.f3, .int .i64 x.f4, .int .i64 x.f5] 69 (0, 0)) from by rw [hw3]; exact blk_new wr _)
              rw [← hw3]
              generalize wr.heap.size = gx at BX ⊢
              clear HQ hw3 hx0 hx1 hx2 hx3 hx4 hx5
              have e0 := (blk_cell BX.out 0).trans (show _ = some (Value.int .i64 x.f0) from rfl)
              have e1 := (blk_cell BX.out 1).trans (show _ = some (Value.int .i64 x.f1) from rfl)
              have e2 := (blk_cell BX.out 2).trans (show _ = some (Value.int .i64 x.f2) from rfl)
              have e3 := (blk_cell BX.out 3).trans (show _ = some (Value.int .i64 x.f3) from rfl)
              have e4 := (blk_cell BX.out 4).trans (show _ = some (Value.int .i64 x.f4) from rfl)
              have e5 := (blk_cell BX.out 5).trans (show _ = some (Value.int .i64 x.f5) from rfl)
              have g1 := (blk_cell HS3.out.hs.kc 1).trans (show _ = some (Value.int .i64 (n : Int)) from rfl)
              go_cut [106] (fun v106 wc => v106 = .bool (decide (histI15 l1 l2 nx ls en z (n : Int) x)) ∧ Aside0 (∃ m, wc = w3.drewN m))
              case first =>
                clear HG2 HI HX
                by_cases c0 : x.f0 < 0
                · have b0 := decide_eq_true c0
                  go_quiet (fail)
                  try go_wp2
                  go_meet
                  case rel => exact ⟨congrArg Value.bool (decide_eq_true (show histI15 l1 l2 nx ls en z (n : Int) x from Or.inl c0)).symm, ⟨_, rfl⟩⟩
                have b0 : decide (x.f0 < 0) = false := decide_eq_false c0
                by_cases c1 : x.f0 ≥ (n : Int)
                · have b1 : decide ((n : Int) ≤ x.f0) = true := decide_eq_true c1
                  go_quiet (fail)
                  try go_wp2
                  go_meet
                  case rel => exact ⟨congrArg Value.bool (decide_eq_true (show histI15 l1 l2 nx ls en z (n : Int) x from Or.inr (Or.inl c1))).symm, ⟨_, rfl⟩⟩
                have b1 : decide ((n : Int) ≤ x.f0) = false := decide_eq_false c1
                have i0 : 0 ≤ x.f0 := by omega
                have i1 : x.f0 < (n : Int) := by omega
                have A01 := Aside0.mk (And.intro c0 c1)
                clear c0 c1
                by_cases c2 : x.f2 < 0
                · have b2 := decide_eq_true c2
                  go_quiet (fail)
                  try go_wp2
                  go_meet
                  case rel => exact ⟨congrArg Value.bool (decide_eq_true (show histI15 l1 l2 nx ls en z (n : Int) x from Or.inr (Or.inr (Or.inl c2)))).symm, ⟨_, rfl⟩⟩
                have b2 : decide (x.f2 < 0) = false := decide_eq_false c2
                have A2 := Aside0.mk c2
                clear c2
                have n1 := ints_cell HS3.out.hs.kn x.f0 i0 (by rw [HS3.out.hs.ln]; exact i1)
                have n2 := ints_cell HS3.out.hs.kb x.f0 i0 (by rw [HS3.out.hs.lb]; exact i1)
                have n3 := bools_cell HS3.out.ke x.f0 i0 (by rw [HS3.out.le]; exact i1)
                obtain ⟨al, L0, lc, eal, hl0, hll, _⟩ := at_L6 HR1.out x.f0 i0 (by rw [HN.out.2.1]; exact i1)
                subst eal
                replace hl0 := (HS3.out.hs.below.cell (World.block_lt_of_cell? w _ hl0)).trans hl0
                have il : x.f0 < (l1.length : Int) := by rw [HN.out.2.1]; exact i1
                have di0 : decide (0 ≤ x.f0) = true := decide_eq_true i0
                have di1 : decide (x.f0 < (n : Int)) = true := decide_eq_true i1
                have dil : decide (x.f0 < (l1.length : Int)) = true := decide_eq_true il
                replace i0 := eq_true i0
                replace i1 := eq_true i1
                replace il := eq_true il
                by_cases cz2 : z > 0
                · obtain ⟨ap, eap, p0, p1, p2, p3, p4, p5⟩ := PV.out cz2
                  cases eap
                  clear p0 p1 p3 p4 p5
                  obtain ⟨y, hy⟩ : ∃ y, y = z - 1 := ⟨_, rfl⟩
                  have hwr : wrap64 (z - 1) = y := by rw [hy]; have := ZZ.out; have := HN.out.2.2; unfold wrap64; omega
                  have HY := Aside0.mk hy
                  rw [← hy] at p2
                  have y0 : 0 ≤ y := by omega
                  have y1 : y < (l2.length : Int) := by have := ZZ.out; omega
                  replace p2 := (HS3.out.hs.below.cell (World.block_lt_of_cell? w _ p2)).trans p2
                  have bz2 : decide (0 < z) = true := decide_eq_true cz2
                  have AZ := Aside0.mk cz2
                  clear cz2 hy
                  have dy0 : decide (0 ≤ y) = true := decide_eq_true y0
                  have dy1 : decide (y < (l2.length : Int)) = true := decide_eq_true y1
                  replace y0 := eq_true y0
                  replace y1 := eq_true y1
                  by_cases c3 : (rd_T69 l2 y).f2 ≥ x.f2
                  · have b3 : decide (x.f2 ≤ (rd_T69 l2 y).f2) = true := decide_eq_true c3
                    have FIN := Aside0.mk (decide_eq_true (show histI15 l1 l2 nx ls en z (n : Int) x from Or.inr (Or.inr (Or.inr (Or.inl ⟨AZ.out, by rw [← HY.out]; exact c3⟩)))))
                    clear c3
                    go_quiet (fail)
                    try go_wp2
                    go_meet
                    case rel => exact ⟨congrArg Value.bool (FIN.out).symm, ⟨_, rfl⟩⟩
                  have b3 : decide (x.f2 ≤ (rd_T69 l2 y).f2) = false := decide_eq_false c3
                  have N1 := Aside0.mk c3
                  clear c3
                  by_cases c4 : x.f1 = rd nx x.f0
                  · have b4 : (x.f1 != rd nx x.f0) = false := bne_eq_false_iff_eq.mpr c4
                    have b4' : (x.f1 == rd nx x.f0) = true := beq_iff_eq.mpr c4
                    have A4 := Aside0.mk c4
                    clear c4
                    by_cases c5 : x.f1 ≥ ((rd_L6 l1 x.f0).length : Int)
                    · have b5 : decide (((rd_L6 l1 x.f0).length : Int) ≤ x.f1) = true := decide_eq_true c5
                      have FIN := Aside0.mk (decide_eq_true (show histI15 l1 l2 nx ls en z (n : Int) x from Or.inr (Or.inr (Or.inr (Or.inr (Or.inr (Or.inl c5)))))))
                      clear c5
                      go_quiet (fail)
                      try go_wp2
                      go_meet
                      case rel => exact ⟨congrArg Value.bool (FIN.out).symm, ⟨_, rfl⟩⟩
                    have b5 : decide (((rd_L6 l1 x.f0).length : Int) ≤ x.f1) = false := decide_eq_false c5
                    have A5 := Aside0.mk c5
                    clear c5
                    cases c6 : rdOf false en x.f0 with
                    | true =>
                      have FIN := Aside0.mk (decide_eq_true (show histI15 l1 l2 nx ls en z (n : Int) x from Or.inr (Or.inr (Or.inr (Or.inr (Or.inr (Or.inr (Or.inl c6))))))))
                      rw [c6] at n3
                      clear c6
                      go_quiet (fail)
                      try go_wp2
                      go_meet
                      case rel => exact ⟨congrArg Value.bool (FIN.out).symm, ⟨_, rfl⟩⟩
                    | false =>
                      have A6 := Aside0.mk c6
                      rw [c6] at n3
                      clear c6
                      by_cases c7 : x.f2 ≤ rd ls x.f0
                      · have b7 := decide_eq_true c7
                        have FIN := Aside0.mk (decide_eq_true (show histI15 l1 l2 nx ls en z (n : Int) x from Or.inr (Or.inr (Or.inr (Or.inr (Or.inr (Or.inr (Or.inr (c7)))))))))
                        clear c7
                        go_quiet (fail)
                        try go_wp2
                        go_meet
                        case rel => exact ⟨congrArg Value.bool (FIN.out).symm, ⟨_, rfl⟩⟩
                      · have b7 := decide_eq_false c7
                        have FIN := Aside0.mk (decide_eq_false (fun g : histI15 l1 l2 nx ls en z (n : Int) x => g.elim A01.out.1 (fun g => g.elim A01.out.2 (fun g => g.elim A2.out (fun g => g.elim (fun g => N1.out (by rw [HY.out]; exact g.2)) (fun g => g.elim (fun g => g A4.out) (fun g => g.elim A5.out (fun g => g.elim (fun g => by rw [A6.out] at g; cases g) c7))))))))
                        clear c7
                        go_quiet (fail)
                        try go_wp2
                        go_meet
                        case rel => exact ⟨congrArg Value.bool (FIN.out).symm, ⟨_, rfl⟩⟩
                  · have b4 : (x.f1 != rd nx x.f0) = true := bne_iff_ne.mpr c4
                    have b4' : (x.f1 == rd nx x.f0) = false := beq_eq_false_iff_ne.mpr c4
                    have FIN := Aside0.mk (decide_eq_true (show histI15 l1 l2 nx ls en z (n : Int) x from Or.inr (Or.inr (Or.inr (Or.inr (Or.inl c4))))))
                    clear c4
                    go_quiet (fail)
                    try go_wp2
                    go_meet
                    case rel => exact ⟨congrArg Value.bool (FIN.out).symm, ⟨_, rfl⟩⟩
                · have bz2 : decide (0 < z) = false := decide_eq_false cz2
                  have NZ := Aside0.mk cz2
                  clear cz2
                  by_cases c4 : x.f1 = rd nx x.f0
                  · have b4 : (x.f1 != rd nx x.f0) = false := bne_eq_false_iff_eq.mpr c4
                    have b4' : (x.f1 == rd nx x.f0) = true := beq_iff_eq.mpr c4
                    have A4 := Aside0.mk c4
                    clear c4
                    by_cases c5 : x.f1 ≥ ((rd_L6 l1 x.f0).length : Int)
                    · have b5 : decide (((rd_L6 l1 x.f0).length : Int) ≤ x.f1) = true := decide_eq_true c5
                      have FIN := Aside0.mk (decide_eq_true (show histI15 l1 l2 nx ls en z (n : Int) x from Or.inr (Or.inr (Or.inr (Or.inr (Or.inr (Or.inl c5)))))))
                      clear c5
                      go_quiet (fail)
                      try go_wp2
                      go_meet
                      case rel => exact ⟨congrArg Value.bool (FIN.out).symm, ⟨_, rfl⟩⟩
                    have b5 : decide (((rd_L6 l1 x.f0).length : Int) ≤ x.f1) = false := decide_eq_false c5
                    have A5 := Aside0.mk c5
                    clear c5
                    cases c6 : rdOf false en x.f0 with
                    | true =>
                      have FIN := Aside0.mk (decide_eq_true (show histI15 l1 l2 nx ls en z (n : Int) x from Or.inr (Or.inr (Or.inr (Or.inr (Or.inr (Or.inr (Or.inl c6))))))))
                      rw [c6] at n3
                      clear c6
                      go_quiet (fail)
                      try go_wp2
                      go_meet
                      case rel => exact ⟨congrArg Value.bool (FIN.out).symm, ⟨_, rfl⟩⟩
                    | false =>
                      have A6 := Aside0.mk c6
                      rw [c6] at n3
                      clear c6
                      by_cases c7 : x.f2 ≤ rd ls x.f0
                      · have b7 := decide_eq_true c7
                        have FIN := Aside0.mk (decide_eq_true (show histI15 l1 l2 nx ls en z (n : Int) x from Or.inr (Or.inr (Or.inr (Or.inr (Or.inr (Or.inr (Or.inr (c7)))))))))
                        clear c7
                        go_quiet (fail)
                        try go_wp2
                        go_meet
                        case rel => exact ⟨congrArg Value.bool (FIN.out).symm, ⟨_, rfl⟩⟩
                      · have b7 := decide_eq_false c7
                        have FIN := Aside0.mk (decide_eq_false (fun g : histI15 l1 l2 nx ls en z (n : Int) x => g.elim A01.out.1 (fun g => g.elim A01.out.2 (fun g => g.elim A2.out (fun g => g.elim (fun g => NZ.out g.1) (fun g => g.elim (fun g => g A4.out) (fun g => g.elim A5.out (fun g => g.elim (fun g => by rw [A6.out] at g; cases g) c7))))))))
                        clear c7
                        go_quiet (fail)
                        try go_wp2
                        go_meet
                        case rel => exact ⟨congrArg Value.bool (FIN.out).symm, ⟨_, rfl⟩⟩
                  · have b4 : (x.f1 != rd nx x.f0) = true := bne_iff_ne.mpr c4
                    have b4' : (x.f1 == rd nx x.f0) = false := beq_eq_false_iff_ne.mpr c4
                    have FIN := Aside0.mk (decide_eq_true (show histI15 l1 l2 nx ls en z (n : Int) x from Or.inr (Or.inr (Or.inr (Or.inr (Or.inl c4))))))
                    clear c4
                    go_quiet (fail)
                    try go_wp2
                    go_meet
                    case rel => exact ⟨congrArg Value.bool (FIN.out).symm, ⟨_, rfl⟩⟩
              case rest =>
                obtain ⟨rfl, HW⟩ := hcut
                obtain ⟨m, hwc⟩ := HW.out
                have HS5 := Aside0.mk (show HE w wc w.heap.size w2.heap.size (w2.heap.size + 1) ge a (n : Int) c nx ls en from by rw [hwc]; exact HS3.out.drewN m)
                have BX5 := Aside0.mk (show wc.heap[gx]? = some (.cells #[.int .i64 x.f0, .int .i64 x.f1, .int .i64 x.f2, .int .i64 x.f3, .int .i64 x.f4, .int .i64 x.f5] 69 (0, 0)) from by rw [hwc]; exact blk_drewN BX.out m)
                clear HW hwc HS3 BX e0 e1 e2 e3 e4 e5 g1 PV
                by_cases B15 : histI15 l1 l2 nx ls en z (n : Int) x
                · have b15 := decide_eq_true B15
                  obtain rfl : false = r := by have h_ := HG2.out; rw [impl_HistOk.go, HX.out, if_pos B15] at h_; exact h_
                  go_wp2
                  go_ret
                  exact ⟨rfl, HS5.out.hs.below⟩
                have b15 := decide_eq_false B15
                have N15 := Aside0.mk B15
                have F0 := Aside0.mk (show 0 ≤ x.f0 ∧ x.f0 < (n : Int) from ⟨Int.not_lt.1 (fun g => B15 (Or.inl g)), Int.not_le.1 (fun g => B15 (Or.inr (Or.inl g)))⟩)
                have di0 : decide (0 ≤ x.f0) = true := decide_eq_true F0.out.1
                have di1 : decide (x.f0 < (n : Int)) = true := decide_eq_true F0.out.2
                have i0 := eq_true F0.out.1
                have i1 := eq_true F0.out.2
                have e0 := (blk_cell BX5.out 0).trans (show _ = some (Value.int .i64 x.f0) from rfl)
                have e1 := (blk_cell BX5.out 1).trans (show _ = some (Value.int .i64 x.f1) from rfl)
                have e2 := (blk_cell BX5.out 2).trans (show _ = some (Value.int .i64 x.f2) from rfl)
                have e3 := (blk_cell BX5.out 3).trans (show _ = some (Value.int .i64 x.f3) from rfl)
                have e4 := (blk_cell BX5.out 4).trans (show _ = some (Value.int .i64 x.f4) from rfl)
                have e5 := (blk_cell BX5.out 5).trans (show _ = some (Value.int .i64 x.f5) from rfl)
                by_cases c3 : x.f3 = -1
                · have b3 : (x.f3 == -1) = true := beq_iff_eq.mpr c3
                  have A3 := Aside0.mk c3
                  clear c3
                  by_cases c4 : x.f4 = 0
                  · have b4 : (x.f4 != 0) = false := by simp [c4]
                    by_cases c5 : x.f5 = 0
                    · have b5 : (x.f5 != 0) = false := by simp [c5]
                      have A45 := Aside0.mk (show ¬ (x.f4 ≠ 0 ∨ x.f5 ≠ 0) from fun g => g.elim (fun g => g c4) (fun g => g c5))
                      clear c4 c5
                      have n1 := bools_cell HS5.out.ke x.f0 F0.out.1 (by rw [HS5.out.le]; exact F0.out.2)
                      have fz := blk_frozen HS5.out.ke x.f0.toNat
                      go_wp2_with (first
                        | ((with_reducible refine gate_store (t := 4) (p := 120) rfl ?_); refine store_event (t := 4) (p := 120) (v := ?vo_120e) (w1 := (wc.setCell ⟨ge, x.f0.toNat, none⟩ (.bool true))) ?hg ?ho ?hn ?hr ?_; (case ho => rfl); (case hg => rfl); (case hn => rfl); (case hr => first | (go_simp; done) | (go_simp; rfl)); intro w5 hw; have HS6 := Aside0.mk (show HE w w5 w.heap.size w2.heap.size (w2.heap.size + 1) ge a (n : Int) c nx ls (en.set x.f0.toNat true) from by rw [hw]; exact HS5.out.sete _ _); have BX6 := Aside0.mk (show w5.heap[gx]? = some (.cells #[.int .i64 x.f0, .int .i64 x.f1, .int .i64 x.f2, .int .i64 x.f3, .int .i64 x.f4, .int .i64 x.f5] 69 (0, 0)) from by rw [hw]; exact blk_far BX5.out (p := ⟨ge, x.f0.toNat, none⟩) (blk_ne BX5.out HS5.out.ke (by decide)) _); clear HS5 BX5 hw e0 e1 e2 e3 e4 e5 n1 fz; have e0 := (blk_cell BX6.out 0).trans (show _ = some (Value.int .i64 x.f0) from rfl); have e1 := (blk_cell BX6.out 1).trans (show _ = some (Value.int .i64 x.f1) from rfl); have e2 := (blk_cell BX6.out 2).trans (show _ = some (Value.int .i64 x.f2) from rfl); have e3 := (blk_cell BX6.out 3).trans (show _ = some (Value.int .i64 x.f3) from rfl); have e4 := (blk_cell BX6.out 4).trans (show _ = some (Value.int .i64 x.f4) from rfl); have e5 := (blk_cell BX6.out 5).trans (show _ = some (Value.int .i64 x.f5) from rfl); have n1 := ints_cell HS6.out.hs.kn x.f0 F0.out.1 (by rw [HS6.out.hs.ln]; exact F0.out.2); have fz := blk_frozen HS6.out.hs.kn x.f0.toNat)
                        | ((with_reducible refine gate_store (t := 3) (p := 131) rfl ?_); refine store_event (t := 3) (p := 131) (v := ?vo_131e) (w1 := (w5.setCell ⟨w2.heap.size, x.f0.toNat, none⟩ (.int .i64 (wrap64 (rd nx x.f0 + 1))))) ?hg ?ho ?hn ?hr ?_; (case ho => rfl); (case hg => rfl); (case hn => rfl); (case hr => first | (go_simp; done) | (go_simp; rfl)); intro w6 hw; have HS7 := Aside0.mk (show HE w w6 w.heap.size w2.heap.size (w2.heap.size + 1) ge a (n : Int) c (nx.set x.f0.toNat (wrap64 (rd nx x.f0 + 1))) ls (en.set x.f0.toNat true) from by rw [hw]; exact HS6.out.setn _ _); have BX7 := Aside0.mk (show w6.heap[gx]? = some (.cells #[.int .i64 x.f0, .int .i64 x.f1, .int .i64 x.f2, .int .i64 x.f3, .int .i64 x.f4, .int .i64 x.f5] 69 (0, 0)) from by rw [hw]; exact blk_far BX6.out (p := ⟨w2.heap.size, x.f0.toNat, none⟩) (blk_ne BX6.out HS6.out.hs.kn (by decide)) _); clear HS6 BX6 hw e0 e1 e2 e3 e4 e5 n1 fz; have e0 := (blk_cell BX7.out 0).trans (show _ = some (Value.int .i64 x.f0) from rfl); have e1 := (blk_cell BX7.out 1).trans (show _ = some (Value.int .i64 x.f1) from rfl); have e2 := (blk_cell BX7.out 2).trans (show _ = some (Value.int .i64 x.f2) from rfl); have e3 := (blk_cell BX7.out 3).trans (show _ = some (Value.int .i64 x.f3) from rfl); have e4 := (blk_cell BX7.out 4).trans (show _ = some (Value.int .i64 x.f4) from rfl); have e5 := (blk_cell BX7.out 5).trans (show _ = some (Value.int .i64 x.f5) from rfl); have n1 := ints_cell HS7.out.hs.kb x.f0 F0.out.1 (by rw [HS7.out.hs.lb]; exact F0.out.2); have fz := blk_frozen HS7.out.hs.kb x.f0.toNat)
                        | ((with_reducible refine gate_store (t := 3) (p := 136) rfl ?_); refine store_event (t := 3) (p := 136) (v := ?vo_136e) (w1 := (w6.setCell ⟨w2.heap.size + 1, x.f0.toNat, none⟩ (.int .i64 x.f3))) ?hg ?ho ?hn ?hr ?_; (case ho => rfl); (case hg => rfl); (case hn => rfl); (case hr => first | (go_simp; done) | (go_simp; rfl)); intro w7 hw; have HS8 := Aside0.mk (show HE w w7 w.heap.size w2.heap.size (w2.heap.size + 1) ge a (n : Int) c (nx.set x.f0.toNat (wrap64 (rd nx x.f0 + 1))) (ls.set x.f0.toNat x.f3) (en.set x.f0.toNat true) from by rw [hw]; exact HS7.out.setb _ _); have BX8 := Aside0.mk (show w7.heap[gx]? = some (.cells #[.int .i64 x.f0, .int .i64 x.f1, .int .i64 x.f2, .int .i64 x.f3, .int .i64 x.f4, .int .i64 x.f5] 69 (0, 0)) from by rw [hw]; exact blk_far BX7.out (p := ⟨w2.heap.size + 1, x.f0.toNat, none⟩) (blk_ne BX7.out HS7.out.hs.kb (by decide)) _); clear HS7 BX7 hw e0 e1 e2 e3 e4 e5 n1 fz; have e0 := (blk_cell BX8.out 0).trans (show _ = some (Value.int .i64 x.f0) from rfl); have e1 := (blk_cell BX8.out 1).trans (show _ = some (Value.int .i64 x.f1) from rfl); have e2 := (blk_cell BX8.out 2).trans (show _ = some (Value.int .i64 x.f2) from rfl); have e3 := (blk_cell BX8.out 3).trans (show _ = some (Value.int .i64 x.f3) from rfl); have e4 := (blk_cell BX8.out 4).trans (show _ = some (Value.int .i64 x.f4) from rfl); have e5 := (blk_cell BX8.out 5).trans (show _ = some (Value.int .i64 x.f5) from rfl); skip))
                      go_roundg d
                      case measure => omega
                      case rel =>
                        have hi_ := HI.out
                        have hn_ := HN.out
                        have hw_ : wrap64 (z + 1) = z + 1 := by unfold wrap64; omega
                        refine ⟨wrap64 (z + 1), i + 1, d, _, _, _, by omega, rfl, ⟨by omega, by rw [hw_]; omega⟩, HS8, ⟨?_⟩⟩
                        have h_ := HG2.out
                        rw [impl_HistOk.go, HX.out, if_neg N15.out, if_pos A3.out, if_neg A45.out] at h_
                        rw [hw_, ← h_]
                    · have b5 : (x.f5 != 0) = true := by simp [c5]
                      obtain rfl : false = r := by have h_ := HG2.out; rw [impl_HistOk.go, HX.out, if_neg N15.out, if_pos A3.out, if_pos (Or.inr c5)] at h_; exact h_
                      go_wp2
                      go_ret
                      exact ⟨rfl, HS5.out.hs.below⟩
                  · have b4 : (x.f4 != 0) = true := by simp [c4]
                    obtain rfl : false = r := by have h_ := HG2.out; rw [impl_HistOk.go, HX.out, if_neg N15.out, if_pos A3.out, if_pos (Or.inl c4)] at h_; exact h_
                    go_wp2
                    go_ret
                    exact ⟨rfl, HS5.out.hs.below⟩
                · have b3 : (x.f3 == -1) = false := beq_eq_false_iff_ne.mpr c3
                  have A3 := Aside0.mk c3
                  clear c3
                  by_cases c4 : x.f3 < x.f2
                  · have b4 := decide_eq_true c4
                    obtain rfl : false = r := by have h_ := HG2.out; rw [impl_HistOk.go, HX.out, if_neg N15.out, if_neg A3.out, if_pos c4] at h_; exact h_
                    go_wp2
                    go_ret
                    exact ⟨rfl, HS5.out.hs.below⟩
                  · have b4 := decide_eq_false c4
                    have A4 := Aside0.mk c4
                    clear c4
                    have n1 := ints_cell HS5.out.hs.kn x.f0 F0.out.1 (by rw [HS5.out.hs.ln]; exact F0.out.2)
                    have fz := blk_frozen HS5.out.hs.kn x.f0.toNat
                    go_wp2_with (first
                      | ((with_reducible refine gate_store (t := 3) (p := 131) rfl ?_); refine store_event (t := 3) (p := 131) (v := ?vo_131o) (w1 := (wc.setCell ⟨w2.heap.size, x.f0.toNat, none⟩ (.int .i64 (wrap64 (rd nx x.f0 + 1))))) ?hg ?ho ?hn ?hr ?_; (case ho => rfl); (case hg => rfl); (case hn => rfl); (case hr => first | (go_simp; done) | (go_simp; rfl)); intro w6 hw; have HS7 := Aside0.mk (show HE w w6 w.heap.size w2.heap.size (w2.heap.size + 1) ge a (n : Int) c (nx.set x.f0.toNat (wrap64 (rd nx x.f0 + 1))) ls en from by rw [hw]; exact HS5.out.setn _ _); have BX7 := Aside0.mk (show w6.heap[gx]? = some (.cells #[.int .i64 x.f0, .int .i64 x.f1, .int .i64 x.f2, .int .i64 x.f3, .int .i64 x.f4, .int .i64 x.f5] 69 (0, 0)) from by rw [hw]; exact blk_far BX5.out (p := ⟨w2.heap.size, x.f0.toNat, none⟩) (blk_ne BX5.out HS5.out.hs.kn (by decide)) _); clear HS5 BX5 hw e0 e1 e2 e3 e4 e5 n1 fz; have e0 := (blk_cell BX7.out 0).trans (show _ = some (Value.int .i64 x.f0) from rfl); have e1 := (blk_cell BX7.out 1).trans (show _ = some (Value.int .i64 x.f1) from rfl); have e2 := (blk_cell BX7.out 2).trans (show _ = some (Value.int .i64 x.f2) from rfl); have e3 := (blk_cell BX7.out 3).trans (show _ = some (Value.int .i64 x.f3) from rfl); have e4 := (blk_cell BX7.out 4).trans (show _ = some (Value.int .i64 x.f4) from rfl); have e5 := (blk_cell BX7.out 5).trans (show _ = some (Value.int .i64 x.f5) from rfl); have n1 := ints_cell HS7.out.hs.kb x.f0 F0.out.1 (by rw [HS7.out.hs.lb]; exact F0.out.2); have fz := blk_frozen HS7.out.hs.kb x.f0.toNat)
                      | ((with_reducible refine gate_store (t := 3) (p := 136) rfl ?_); refine store_event (t := 3) (p := 136) (v := ?vo_136o) (w1 := (w6.setCell ⟨w2.heap.size + 1, x.f0.toNat, none⟩ (.int .i64 x.f3))) ?hg ?ho ?hn ?hr ?_; (case ho => rfl); (case hg => rfl); (case hn => rfl); (case hr => first | (go_simp; done) | (go_simp; rfl)); intro w7 hw; have HS8 := Aside0.mk (show HE w w7 w.heap.size w2.heap.size (w2.heap.size + 1) ge a (n : Int) c (nx.set x.f0.toNat (wrap64 (rd nx x.f0 + 1))) (ls.set x.f0.toNat x.f3) en from by rw [hw]; exact HS7.out.setb _ _); have BX8 := Aside0.mk (show w7.heap[gx]? = some (.cells #[.int .i64 x.f0, .int .i64 x.f1, .int .i64 x.f2, .int .i64 x.f3, .int .i64 x.f4, .int .i64 x.f5] 69 (0, 0)) from by rw [hw]; exact blk_far BX7.out (p := ⟨w2.heap.size + 1, x.f0.toNat, none⟩) (blk_ne BX7.out HS7.out.hs.kb (by decide)) _); clear HS7 BX7 hw e0 e1 e2 e3 e4 e5 n1 fz; have e0 := (blk_cell BX8.out 0).trans (show _ = some (Value.int .i64 x.f0) from rfl); have e1 := (blk_cell BX8.out 1).trans (show _ = some (Value.int .i64 x.f1) from rfl); have e2 := (blk_cell BX8.out 2).trans (show _ = some (Value.int .i64 x.f2) from rfl); have e3 := (blk_cell BX8.out 3).trans (show _ = some (Value.int .i64 x.f3) from rfl); have e4 := (blk_cell BX8.out 4).trans (show _ = some (Value.int .i64 x.f4) from rfl); have e5 := (blk_cell BX8.out 5).trans (show _ = some (Value.int .i64 x.f5) from rfl); skip))
                    go_roundg d
                    case measure => omega
                    case rel =>
                      have hi_ := HI.out
                      have hn_ := HN.out
                      have hw_ : wrap64 (z + 1) = z + 1 := by unfold wrap64; omega
                      refine ⟨wrap64 (z + 1), i + 1, d, _, _, _, by omega, rfl, ⟨by omega, by rw [hw_]; omega⟩, HS8, ⟨?_⟩⟩
                      have h_ := HG2.out
                      rw [impl_HistOk.go, HX.out, if_neg N15.out, if_neg A3.out, if_neg (show ¬ x.f3 < x.f2 by have := A4.out; omega)] at h_
                      rw [hw_, ← h_]
    · rw [if_neg hn] at h
      cases h
  · rw [if_neg ht] at h
    obtain rfl : t = false := by simpa using ht
    obtain rfl := Option.some.inj h
    clear h ht
    go_enter Try.func21, Try.ntmps21
    go_wp2_with (go_at_call 29; rw [← hw1]; refine cs.mono ?_; rintro e w2 ⟨rfl, hb2⟩; have B2 := Aside0.mk (below_step HB1.out hb2); clear cs hb2)
    go_ret
    exact ⟨rfl, B2.out⟩

end Go.Proofs.Ytnkcoooifjjmbaa.QFnExactHistOk
