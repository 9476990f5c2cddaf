-- Written by a program of this session that drives the print of the kit, with contracts of its own beside the printed ones. Lean checks it.
import Derived.Test.YtdaikmojalfimaaQFnExactPathLoopsx0
import Derived.Test.YtdaikmojalfimaaQFnExactPathLoopsx4
import Derived.Test.YtdaikmojalfimaaQFnExactPathLoopsx6
import Derived.Test.YtdaikmojalfimaaQFnExactPathLoopsx7
namespace Go.Proofs.Ytdaikmojalfimaa.QFnExactPathLoops
open Go.RowKit Go.Proofs.YtdaikmojalfimaaW.PrintWords Go.Proofs.YtdaikmojalfimaaW.PrintLast Go.Proofs.YtdaikmojalfimaaW.PrintMore
attribute [local go_sem] max2_int min2_int max_two min_two max_three min_three max_four min_four   -- for this text's walks alone
set_option linter.unusedVariables false
set_option linter.unusedSimpArgs false

/-! ### spec_l17Below: function 46 -/
def orN : Nat → List Bool → List Bool → List Bool
  | 0, out, _ => out
  | i + 1, out, m => (orN i out m).set i (rdOf false (orN i out m) (i : Int) || rdOf false m (i : Int))
def spec_l17Below.go (k : Nat) (g0 : List S50) : List Int → List Bool → Option (List Bool)
  | [], out => some out
  | n :: rest, out => (spec_GraphReach.f k g0 [[n]] []).bind fun m => if m.length ≤ out.length ∧ out.length ≤ 1048576 then spec_l17Below.go k g0 rest (orN m.length out m) else none
def spec_l17Below.f (k : Nat) (l0 : List S50) (l1 : List (List Int)) (l2 : List Int) (z : Int) : Option (List Bool) := (spec_l5Copy.f k l0 l1 l2).bind fun g => if (0 ≤ z ∧ z < (l0.length : Int)) ∧ l0.length ≤ 1048576 ∧ (rd_T50 l0 z).f0.length ≤ 1048576 then spec_l17Below.go k g.1 (rd_T50 l0 z).f0 (List.replicate l0.length false) else none
theorem spec_l17Below.mono_go (k : Nat) (g0 : List S50) : ∀ (l : List Int) (out : List Bool), LeO (spec_l17Below.go k g0 l out) (spec_l17Below.go (k + 1) g0 l out)
  | [], _ => LeO.refl _
  | n :: rest, out => LeO.bind (spec_GraphReach.mono _ _ _ _) (fun _ => LeO.ite (spec_l17Below.mono_go k g0 rest _) (LeO.refl _))
theorem spec_l17Below.mono : ∀ a0 a1 a2 a3 k, LeO (spec_l17Below.f k a0 a1 a2 a3) (spec_l17Below.f (k + 1) a0 a1 a2 a3) := fun _ _ _ _ k => LeO.bind (spec_l5Copy.mono _ _ _ _) (fun _ => LeO.ite (spec_l17Below.mono_go k _ _ _) (LeO.refl _))
structure LB (w0 W : World) (b2 b5 : Nat) (g0v g1v g2v v0 u vo : Value) (q0 : List S50) (out : List Bool) : Prop where
  below : Below w0.heap.size w0 W
  k2 : W.heap[b2]? = some (.cells #[g0v, g1v, g2v] 26 (0, 0))
  k5 : W.heap[b5]? = some (.cells #[v0, .slice (some ⟨b5 + 1, 0, none⟩) 1 1, .slice none 0 0] 26 (0, 0))
  kr : W.heap[b5 + 1]? = some (.cells #[u] 24 (0, 0))
  S0 : Kd.S k50 50 W w0.heap.size (fun k => k < b5) v0 q0
  RO : Kd.R Kd.bool 4 W w0.heap.size (fun k => b5 + 1 < k) vo out
  n5 : w0.heap.size ≤ b5
theorem lb_start {w w1 w2 w4 : World} {b2 n : Nat} {g0v g1v g2v v0 v18 : Value} {q0 : List S50} {P : Nat → Prop} (kx : w2.heap[b2]? = some (.cells #[g0v, g1v, g2v] 26 (0, 0))) (S0 : Kd.S k50 50 w2 w1.heap.size P v0 q0) (hb : Below w.heap.size w w2) (h1 : w.heap.size ≤ w1.heap.size)
    (hb4 : Below ((w2.alloc (.cells #[v0, .slice (some ⟨w2.heap.size + 1, 0, none⟩) 1 1, .slice none 0 0] 26)).alloc (.cells #[.slice none 0 0] 24)).heap.size ((w2.alloc (.cells #[v0, .slice (some ⟨w2.heap.size + 1, 0, none⟩) 1 1, .slice none 0 0] 26)).alloc (.cells #[.slice none 0 0] 24)) w4)
    (RO : Kd.R Kd.bool 4 w4 ((w2.alloc (.cells #[v0, .slice (some ⟨w2.heap.size + 1, 0, none⟩) 1 1, .slice none 0 0] 26)).alloc (.cells #[.slice none 0 0] 24)).heap.size (fun _ => True) v18 (List.replicate (n : Int).toNat false)) : LB w w4 b2 w2.heap.size g0v g1v g2v v0 (.slice none 0 0) v18 q0 (List.replicate n false) := by
  have hz := hb.size
  have hs : ((w2.alloc (.cells #[v0, .slice (some ⟨w2.heap.size + 1, 0, none⟩) 1 1, .slice none 0 0] 26)).alloc (.cells #[.slice none 0 0] 24)).heap.size = w2.heap.size + 1 + 1 := by rw [World.size_alloc, World.size_alloc]
  rw [Int.toNat_natCast] at RO
  refine ⟨below_step (below_alloc (below_alloc hb _) _) hb4, blk_below (blk_alloc (blk_alloc kx _) _) hb4, blk_below (blk_alloc (blk_new w2 _) _) hb4, ?_, ?_, ?_, hz⟩
  · refine blk_below ?_ hb4
    have h := blk_new (w2.alloc (.cells #[v0, .slice (some ⟨w2.heap.size + 1, 0, none⟩) 1 1, .slice none 0 0] 26)) (.cells #[.slice none 0 0] 24)
    rwa [World.size_alloc] at h
  · exact Kd.S_lower (Kd.S_mono (Kd.S_below (Kd.S_alloc (Kd.S_alloc (Kd.S_bound S0) _) _) hb4) (fun k hk => hk.2.2.1)) h1
  · exact Kd.R_lower (Kd.R_mono (Kd.R_bound RO) (fun k hk => by have := hk.2.1; omega)) (by omega)
theorem lb_row {w0 W W5 : World} {b2 b5 : Nat} {g0v g1v g2v v0 u vo : Value} {q0 : List S50} {out : List Bool} (h : LB w0 W b2 b5 g0v g1v g2v v0 u vo q0 out) (n : Int) (hw : W5 = ((W.alloc (.cells #[.int .i64 n] 3)).setCell ⟨b5 + 1, 0, none⟩ (.slice (some ⟨W.heap.size, 0, none⟩) 1 1)).drew) :
    LB w0 W5 b2 b5 g0v g1v g2v v0 (.slice (some ⟨W.heap.size, 0, none⟩) 1 1) vo q0 out ∧ Kd.S (Kd.slice 3 (Kd.int .i64)) 24 W5 w0.heap.size (fun _ => True) (.slice (some ⟨b5 + 1, 0, none⟩) 1 1) [[n]] := by
  subst hw
  have hz := h.below.size
  have hr := blk_lt h.kr
  have n5 := h.n5
  have ka := blk_alloc h.kr (.cells #[.int .i64 n] 3)
  have kr : (((W.alloc (.cells #[.int .i64 n] 3)).setCell ⟨b5 + 1, 0, none⟩ (.slice (some ⟨W.heap.size, 0, none⟩) 1 1)).drew).heap[b5 + 1]? = some (.cells #[.slice (some ⟨W.heap.size, 0, none⟩) 1 1] 24 (0, 0)) := blk_drew (blk_put ka 0 _ rfl)
  have kn : (((W.alloc (.cells #[.int .i64 n] 3)).setCell ⟨b5 + 1, 0, none⟩ (.slice (some ⟨W.heap.size, 0, none⟩) 1 1)).drew).heap[W.heap.size]? = some (.cells #[.int .i64 n] 3 (0, 0)) := blk_drew (blk_far (blk_new W _) (p := ⟨b5 + 1, 0, none⟩) (by show W.heap.size ≠ b5 + 1; omega) _)
  refine ⟨⟨below_drew (below_set (below_alloc h.below _) (by show w0.heap.size ≤ b5 + 1; omega)), blk_drew (blk_far (blk_alloc h.k2 _) (p := ⟨b5 + 1, 0, none⟩) (blk_ne h.k2 h.kr (by decide)) _), blk_drew (blk_far (blk_alloc h.k5 _) (p := ⟨b5 + 1, 0, none⟩) (blk_ne h.k5 h.kr (by decide)) _), kr, Kd.S_drew (Kd.S_set (Kd.S_alloc h.S0 _) ka (by decide) _ _), Kd.R_drew (Kd.R_set (Kd.R_alloc h.RO _) ka (by decide) _ _), h.n5⟩, ?_⟩
  refine ⟨fun _ => 0, fun k hk => trivial, [.slice (some ⟨W.heap.size, 0, none⟩) 1 1], ⟨rfl, Or.inr ⟨b5 + 1, 1, _, rfl, by omega, kr, Nat.le_refl _, by decide, rfl, rfl⟩⟩, rfl, fun j p hj => ?_⟩
  cases j with
  | zero =>
    cases hj
    refine ⟨_, rfl, Kd.R_of_own (enc := Value.int .i64) (h1 := fun _ => rfl) ⟨by simp [encs], Or.inr ⟨W.heap.size, 1, #[.int .i64 n], rfl, by omega, kn, Nat.le_refl _, by decide, rfl, rfl⟩⟩ (fun k hk => ⟨⟨trivial, fun e => ?_⟩, rfl⟩)⟩
    have h1 : W.heap.size = k := by simpa [Value.ownBlock] using hk
    have h2 : k = b5 + 1 := by simpa [Value.ownBlock] using e
    omega
  | succ j => cases hj
theorem orN_length : ∀ (i : Nat) (out m : List Bool), (orN i out m).length = out.length
  | 0, _, _ => rfl
  | i + 1, out, m => by rw [orN, List.length_set]; exact orN_length i out m
theorem orN_step {j : Nat} {z : Int} {out m : List Bool} (h : z = (j : Int)) : (orN j out m).set z.toNat (rdOf false (orN j out m) z || rdOf false m z) = orN (j + 1) out m := by
  subst h
  rw [Int.toNat_natCast]
  rfl
theorem lb_put {w0 W : World} {b2 b5 g n c : Nat} {g0v g1v g2v v0 u : Value} {q0 : List S50} {out : List Bool} (h : LB w0 W b2 b5 g0v g1v g2v v0 u (.slice (some ⟨g, 0, none⟩) n c) q0 out) {cs : Array Value} (hg : W.heap[g]? = some (.cells cs 4 (0, 0))) (hn : w0.heap.size ≤ g) (i : Int) (x : Bool) :
    LB w0 (W.setCell ⟨g, i.toNat, none⟩ (.bool x)) b2 b5 g0v g1v g2v v0 u (.slice (some ⟨g, 0, none⟩) n c) q0 (out.set i.toNat x) :=
  ⟨below_set h.below hn, blk_far h.k2 (p := ⟨g, i.toNat, none⟩) (blk_ne h.k2 hg (by decide)) _, blk_far h.k5 (p := ⟨g, i.toNat, none⟩) (blk_ne h.k5 hg (by decide)) _, blk_far h.kr (p := ⟨g, i.toNat, none⟩) (blk_ne h.kr hg (by decide)) _, Kd.S_set h.S0 hg (by decide) _ _, Kd.R_putn h.RO i x, h.n5⟩
theorem lb_below {w0 W W1 : World} {b2 b5 : Nat} {g0v g1v g2v v0 u vo : Value} {q0 : List S50} {out : List Bool} (h : LB w0 W b2 b5 g0v g1v g2v v0 u vo q0 out) (hb : Below W.heap.size W W1) : LB w0 W1 b2 b5 g0v g1v g2v v0 u vo q0 out :=
  ⟨below_step h.below hb, blk_below h.k2 hb, blk_below h.k5 hb, blk_below h.kr hb, Kd.S_below h.S0 hb, Kd.R_below h.RO hb, h.n5⟩
theorem lb_lt {w0 W : World} {b2 b5 : Nat} {g0v g1v g2v v0 u vo : Value} {q0 : List S50} {out : List Bool} (h : LB w0 W b2 b5 g0v g1v g2v v0 u vo q0 out) : ∀ k, vo.ownBlock = some k → k < W.heap.size := by
  obtain ⟨_, inner, ho, _⟩ := h.RO
  exact fun k hk => own_lt ho k hk
set_option maxHeartbeats 8000000 in
set_option maxRecDepth 100000 in
theorem spec_l17Below.calls (k : Nat) (A0_0 : Option Addr) (c0_0 : Nat) (l0_0 : List (S50)) (A0_1 : Option Addr) (c0_1 : Nat) (l0_1 : List (List Int)) (A0_2 : Option Addr) (c0_2 : Nat) (l0_2 : List Int) (a1 : Int) (r : List Bool) (w : World) (hr0_0 : Kd.C k50 w A0_0 l0_0.length l0_0) (hc0_0 : l0_0.length ≤ c0_0) (hr0_1 : Kd.C (Kd.slice 3 (Kd.int .i64)) w A0_1 l0_1.length l0_1) (hc0_1 : l0_1.length ≤ c0_1) (hr0_2 : Kd.C (Kd.int .i64) w A0_2 l0_2.length l0_2) (hc0_2 : l0_2.length ≤ c0_2) (h : spec_l17Below.f k l0_0 l0_1 l0_2 a1 = some r) :
    Calls Try.prog 46 #[.agg #[.slice A0_0 l0_0.length c0_0, .slice A0_1 l0_1.length c0_1, .slice A0_2 l0_2.length c0_2], .int .i64 a1] w fun e w' => ∃ v0_ : Value, e = .returned (v0_) ∧ Kd.R Kd.bool 4 w' w.heap.size (fun _ => True) v0_ r ∧ Below w.heap.size w w' := by
  obtain ⟨⟨q0, q1, q2⟩, FC, h⟩ := Option.bind_eq_some_iff.1 h
  by_cases hz : (0 ≤ a1 ∧ a1 < (l0_0.length : Int)) ∧ l0_0.length ≤ 1048576 ∧ (rd_T50 l0_0 a1).f0.length ≤ 1048576
  · rw [if_pos hz] at h
    obtain ⟨w1, hw1⟩ : ∃ w1, w1 = w.alloc (.cells #[.slice A0_0 l0_0.length c0_0, .slice A0_1 l0_1.length c0_1, .slice A0_2 l0_2.length c0_2] 26) := ⟨_, rfl⟩
    have hb1 : Below w.heap.size w w1 := by rw [hw1]; exact below_alloc (Below.refl _ _) _
    have hbx : w1.heap[w.heap.size]? = some (.cells #[.slice A0_0 l0_0.length c0_0, .slice A0_1 l0_1.length c0_1, .slice A0_2 l0_2.length c0_2] 26 (0, 0)) := by rw [hw1]; exact blk_new w _
    have cc := spec_l5Copy.calls k A0_0 c0_0 l0_0 A0_1 c0_1 l0_1 A0_2 c0_2 l0_2 q0 q1 q2 w1 (Kd.C_below hr0_0 hb1) hc0_0 (Kd.C_below hr0_1 hb1) hc0_1 (Kd.C_below hr0_2 hb1) hc0_2 FC
    have HX := Aside0.mk hbx
    have HB1 := Aside0.mk hb1
    have GO := Aside0.mk h
    have HZ := Aside0.mk hz
    have HC0 := Aside0.mk hr0_0
    clear hbx hb1 h hz hr0_0 hr0_1 hr0_2 FC
    go_enter Try.func46, Try.ntmps46
    go_wp2_with (first
      | (go_at_call 58; rw [← hw1]; refine cc.mono ?_; rintro e w2 ⟨v0, v1, v2, rfl, hS0, hS1, hR2, hb2⟩; obtain ⟨E0, d0, e0⟩ := Kd.S_slice hS0; obtain ⟨E1, d1, e1⟩ := Kd.S_slice hS1; obtain ⟨E2, d2, e2⟩ := Kd.R_slice hR2; subst e0; subst e1; subst e2; have S0 := Aside0.mk hS0; have B2 := Aside0.mk (below_step HB1.out hb2); have kx := blk_below HX.out hb2; have KX := Aside0.mk kx; have p0 := (blk_cell (blk_alloc (blk_alloc kx (.cells #[.slice E0 q0.length d0, .slice (some ⟨w2.heap.size + 1, 0, none⟩) 1 1, .slice none 0 0] 26)) (.cells #[.slice none 0 0] 24)) 0).trans (show _ = some (Value.slice A0_0 l0_0.length c0_0) from rfl); clear cc hS0 hS1 hR2 hb2 kx)
      | ((with_reducible refine gate_dst (N := 18) rfl ?_); refine Kd.R_make Kd.bool _ 4 rfl (N := 18) rfl 39 _ _ rfl (l0_0.length : Int) rfl rfl Try.underlying39 (.bool false) 1 info4 rfl (by decide) (by omega) false (ok := fun _ => True) (okp := fun _ => True) rfl (fun _ hk => hk) trivial (by omega) (Nat.le_trans (Nat.mul_le_mul_right _ (show (l0_0.length : Int).toNat ≤ 1048576 from by have := HZ.out.2; omega)) (by omega)) (Below.refl _ _) (Nat.le_refl _) ?_; intro v18 w4 hR hb4 hg_ hnew_; have RO := Aside0.mk hR; have B4 := Aside0.mk hb4; clear hR hb4 hg_ hnew_))
    have LB0 := Aside0.mk (lb_start KX.out S0.out B2.out HB1.out.size B4.out RO.out)
    clear S0 RO B4 KX p0 B2
    go_loopg [7] (rd_T50 l0_0 a1).f0.length (fun gg v7 wr => ∃ (z : Int) (i : Nat) (rest : List Int) (u : Value) (out : List Bool), rest.length ≤ gg ∧ v7 = .int .i64 z ∧ Aside0 (z = (i : Int) ∧ (rd_T50 l0_0 a1).f0.drop i = rest) ∧ Aside0 (LB w wr w.heap.size w2.heap.size (.slice A0_0 l0_0.length c0_0) (.slice A0_1 l0_1.length c0_1) (.slice A0_2 l0_2.length c0_2) (.slice E0 q0.length d0) u v18 q0 out) ∧ Aside0 (spec_l17Below.go k q0 rest out = some r))
    case atStart => exact ⟨0, 0, _, _, _, Nat.le_refl _, rfl, ⟨rfl, rfl⟩, LB0, GO⟩
    case round =>
      clear LB0 GO
      obtain ⟨z, i, rest, u, out, hg, rfl, HI, HL, HG⟩ := hrel
      obtain ⟨ad, A0, c0, A1, c1, ead, hn0, _, hle, hcr, _, _⟩ := at_T50 HC0.out a1 HZ.out.1.1 HZ.out.1.2
      subst ead
      replace hn0 := (HL.out.below.cell (World.block_lt_of_cell? w _ hn0)).trans hn0
      have y0 := (blk_cell HL.out.k2 0).trans (show _ = some (Value.slice (some ad) l0_0.length c0_0) from rfl)
      have dj0 : decide (0 ≤ a1) = true := decide_eq_true HZ.out.1.1
      have dj1 : decide (a1 < (l0_0.length : Int)) = true := decide_eq_true HZ.out.1.2
      have j0 := eq_true HZ.out.1.1
      have j1 := eq_true HZ.out.1.2
      have HCR := Aside0.mk hcr
      clear hcr
      cases rest with
      | nil =>
        have hl_ : (rd_T50 l0_0 a1).f0.length ≤ i := by
          have h_ := congrArg List.length HI.out.2
          rw [List.length_drop] at h_
          have : ([] : List Int).length = 0 := rfl
          omega
        have cz : decide (z < ((rd_T50 l0_0 a1).f0.length : Int)) = false := decide_eq_false (by have := HI.out.1; omega)
        clear hl_
        obtain rfl : out = r := Option.some.inj HG.out
        go_wp2
        go_ret
        exact ⟨v18, rfl, Kd.R_mono HL.out.RO (fun _ _ => trivial), HL.out.below⟩
      | cons n rest' =>
        have hl_ : i < (rd_T50 l0_0 a1).f0.length := by
          have h_ := congrArg List.length HI.out.2
          rw [List.length_drop, List.length_cons] at h_
          omega
        have cz : decide (z < ((rd_T50 l0_0 a1).f0.length : Int)) = true := decide_eq_true (by have := HI.out.1; omega)
        have HLT := Aside0.mk hl_
        clear hl_
        go_upto_region 8 with (fail)
        have z0 : 0 ≤ z := by have := HI.out.1; omega
        have z1 : z < ((rd_T50 l0_0 a1).f0.length : Int) := by have := HI.out.1; have := HLT.out; omega
        obtain ⟨ar, cR, eA, hcl, hK, hcell⟩ := Kd.C_get HCR.out (0 : Int) z z0 z1
        subst eA
        have hrd : (rd_T50 l0_0 a1).f0.getD z.toNat 0 = n := by
          have hi_ := HI.out
          have hlt_ := HLT.out
          have e_ : z.toNat = i := by omega
          have h_ : (rd_T50 l0_0 a1).f0[i]? = some n := by
            have h2 := congrArg (fun l : List Int => l[0]?) hi_.2
            simpa using h2
          rw [e_, List.getD, h_]
          rfl
        have hc0 : w.cell? (ar.add z.toNat) = some (.int .i64 n) := by
          have h_ := hcell 0 (.int .i64 n) (by rw [show cR = [.int .i64 n] from by rw [← hrd]; exact hK]; rfl)
          have h2_ : w.cell? (ar.add (z.toNat * 1 + 0)) = some (.int .i64 n) := h_
          simpa using h2_
        clear hcell hK hcl hrd
        replace hc0 := (HL.out.below.cell (World.block_lt_of_cell? w _ hc0)).trans hc0
        have dz0 : decide (0 ≤ z) = true := decide_eq_true z0
        replace z0 := eq_true z0
        replace z1 := eq_true z1
        have y5 := (blk_cell HL.out.k5 1).trans (show _ = some (Value.slice (some ⟨w2.heap.size + 1, 0, none⟩) 1 1) from rfl)
        have yr := (blk_cell HL.out.kr 0).trans (show _ = some u from rfl)
        have yf := blk_frozen HL.out.kr 0
        have ba := below_alloc (Below.refl wr.heap.size wr) (.cells #[.int .i64 n] 3)
        have v5 := (blk_cell (blk_alloc HL.out.k5 (.cells #[.int .i64 n] 3)) 1).trans (show _ = some (Value.slice (some ⟨w2.heap.size + 1, 0, none⟩) 1 1) from rfl)
        have vr := (blk_cell (blk_alloc HL.out.kr (.cells #[.int .i64 n] 3)) 0).trans (show _ = some u from rfl)
        have vf := blk_frozen (blk_alloc HL.out.kr (.cells #[.int .i64 n] 3)) 0
        have v0_ := (blk_cell (blk_alloc HL.out.k2 (.cells #[.int .i64 n] 3)) 0).trans (show _ = some (Value.slice (some ad) l0_0.length c0_0) from rfl)
        have vn := (ba.cell (World.block_lt_of_cell? wr _ hn0)).trans hn0
        have vc := (ba.cell (World.block_lt_of_cell? wr _ hc0)).trans hc0
        clear ba
        go_region
        obtain ⟨w5, hw5⟩ : ∃ w5, w5 = ((wr.alloc (.cells #[.int .i64 n] 3)).setCell ⟨w2.heap.size + 1, 0, none⟩ (.slice (some ⟨wr.heap.size, 0, none⟩) 1 1)).drew := ⟨_, rfl⟩
        rw [← hw5]
        obtain ⟨hL5, hR5⟩ := lb_row HL.out n hw5
        obtain ⟨m, FM, hgo⟩ := Option.bind_eq_some_iff.1 (show ((spec_GraphReach.f k q0 [[n]] []).bind fun m => if m.length ≤ out.length ∧ out.length ≤ 1048576 then spec_l17Below.go k q0 rest' (orN m.length out m) else none) = some r from HG.out)
        have cr := spec_GraphReach.calls k E0 d0 q0 (some ⟨w2.heap.size + 1, 0, none⟩) 1 [[n]] none 0 [] m w5 (Kd.S_reads' hL5.S0).2.2 (Kd.S_reads' hL5.S0).2.1 (Kd.S_reads' hR5).2.2 (Kd.S_reads' hR5).2.1 (Kd.C_nil _ _) (Nat.le_refl _) FM
        have HL5 := Aside0.mk hL5
        have HGO := Aside0.mk hgo
        have x0 := (blk_cell hL5.k5 0).trans (show _ = some (Value.slice E0 q0.length d0) from rfl)
        have x1 := (blk_cell hL5.k5 1).trans (show _ = some (Value.slice (some ⟨w2.heap.size + 1, 0, none⟩) 1 1) from rfl)
        have x2 := (blk_cell hL5.k5 2).trans (show _ = some (Value.slice none 0 0) from rfl)
        clear hL5 hR5 hw5 HL HG FM hgo v5 vr vf v0_ vn vc y5 yr yf hn0 hc0 y0
        have LT := Aside0.mk (lb_lt HL5.out)
        obtain ⟨hml, hgo2⟩ : (m.length ≤ out.length ∧ out.length ≤ 1048576) ∧ spec_l17Below.go k q0 rest' (orN m.length out m) = some r := by
          have h_ := HGO.out
          by_cases hl_ : m.length ≤ out.length ∧ out.length ≤ 1048576
          · rw [if_pos hl_] at h_; exact ⟨hl_, h_⟩
          · rw [if_neg hl_] at h_; cases h_
        have HML := Aside0.mk hml
        have HG2 := Aside0.mk hgo2
        clear HGO hml hgo2
        go_wp2_with (go_at_call 17; refine cr.mono ?_; rintro e w6 ⟨vm, rfl, hRm, hb6⟩; obtain ⟨Am, cm, em⟩ := Kd.R_slice hRm; subst em; have RM := Aside0.mk hRm; have L6 := Aside0.mk (lb_below HL5.out hb6); clear cr hRm hb6 x0 x1 x2)
        go_loopg [9] m.length (fun gg v9 wi => ∃ (z9 : Int) (j : Nat), m.length - j ≤ gg ∧ v9 = .int .i64 z9 ∧ Aside0 (z9 = (j : Int) ∧ j ≤ m.length) ∧ Aside0 (LB w wi w.heap.size w2.heap.size (.slice (some ad) l0_0.length c0_0) (.slice A0_1 l0_1.length c0_1) (.slice A0_2 l0_2.length c0_2) (.slice E0 q0.length d0) (.slice (some ⟨wr.heap.size, 0, none⟩) 1 1) v18 q0 (orN j out m)) ∧ Aside0 (Kd.R Kd.bool 4 wi w5.heap.size (fun _ => True) (.slice Am m.length cm) m))
        case atStart => exact ⟨0, 0, by omega, rfl, ⟨rfl, by omega⟩, L6, RM⟩
        case round =>
          clear L6 RM
          obtain ⟨z9, j, hg9, rfl, HJ, LI, RM⟩ := hrel
          by_cases hj : j < m.length
          · have cj : decide (z9 < (m.length : Int)) = true := decide_eq_true (by have := HJ.out.1; omega)
            have k0 : 0 ≤ z9 := by have := HJ.out.1; omega
            have k1 : z9 < (m.length : Int) := by have := HJ.out.1; omega
            have k2 : z9 < ((orN j out m).length : Int) := by rw [orN_length]; have := HML.out; omega
            obtain ⟨go, co, eo, gbo, glo, cso, HGo⟩ := Kd.R_form LI.out.RO (by omega)
            have hgo := LT.out go (by rw [eo]; rfl)
            subst eo
            obtain ⟨gm, cm2, em, gbm, glm, csm, HGm⟩ := Kd.R_form RM.out (by omega)
            cases em
            obtain ⟨oe, of_⟩ := Kd.R_celln false LI.out.RO z9 k0 k2
            obtain ⟨me, _⟩ := Kd.R_celln false RM.out z9 k0 k1
            have LP := lb_put LI.out HGo gbo z9 (rdOf false (orN j out m) z9 || rdOf false m z9)
            rw [orN_step HJ.out.1] at LP
            replace LP := Aside0.mk LP
            have RP := Aside0.mk (show Kd.R Kd.bool 4 (wr.setCell ⟨go, z9.toNat, none⟩ (.bool (rdOf false (orN j out m) z9 || rdOf false m z9))) w5.heap.size (fun _ => True) (.slice (some ⟨gm, 0, none⟩) m.length cm) m from Kd.R_mono (Kd.R_far (p := ⟨go, z9.toNat, none⟩) (Kd.R_bound RM.out) (fun k_ hk_ => by have := hk_.2.1; show k_ ≠ go; omega) _) (fun _ _ => trivial))
            have HJ2 := Aside0.mk (And.intro HJ.out (And.intro hj hg9))
            have dk0 : decide (0 ≤ z9) = true := decide_eq_true k0
            have dk2 : decide (z9 < ((orN j out m).length : Int)) = true := decide_eq_true k2
            clear HJ hj LI RM gbo glo HGo hgo gbm glm HGm hg9
            replace k0 := eq_true k0
            replace k1 := eq_true k1
            replace k2 := eq_true k2
            cases ho_ : rdOf false (orN j out m) z9 with
            | true =>
              rw [ho_] at oe LP RP
              go_wp2
              go_roundg (m.length - (j + 1))
              case measure => have := HJ2.out; omega
              case rel => exact ⟨z9 + 1, j + 1, Nat.le_refl _, (congrArg (Value.int .i64) (by have := HJ2.out; have := HML.out; unfold wrap64; omega)), ⟨by have := HJ2.out; omega, by have := HJ2.out; omega⟩, LP, RP⟩
            | false =>
              cases hm_ : rdOf false m z9 with
              | true =>
                rw [ho_] at oe
                rw [hm_] at me
                rw [ho_, hm_] at LP RP
                go_wp2
                go_roundg (m.length - (j + 1))
                case measure => have := HJ2.out; omega
                case rel => exact ⟨z9 + 1, j + 1, Nat.le_refl _, (congrArg (Value.int .i64) (by have := HJ2.out; have := HML.out; unfold wrap64; omega)), ⟨by have := HJ2.out; omega, by have := HJ2.out; omega⟩, LP, RP⟩
              | false =>
                rw [ho_] at oe
                rw [hm_] at me
                rw [ho_, hm_] at LP RP
                go_wp2
                go_roundg (m.length - (j + 1))
                case measure => have := HJ2.out; omega
                case rel => exact ⟨z9 + 1, j + 1, Nat.le_refl _, (congrArg (Value.int .i64) (by have := HJ2.out; have := HML.out; unfold wrap64; omega)), ⟨by have := HJ2.out; omega, by have := HJ2.out; omega⟩, LP, RP⟩
          · have cj : decide (z9 < (m.length : Int)) = false := decide_eq_false (by have := HJ.out.1; omega)
            obtain rfl : j = m.length := by have := HJ.out.2; omega
            clear hj HML LT
            go_wp2
            go_roundg rest'.length
            case measure => have := hg; simp only [List.length_cons] at this; omega
            case rel => exact ⟨z + 1, i + 1, rest', _, _, Nat.le_refl _, (congrArg (Value.int .i64) (by have := HI.out; have := HLT.out; have := HZ.out.2.2; unfold wrap64; omega)), ⟨by have := HI.out; omega, by have h_ := congrArg List.tail HI.out.2; rw [List.tail_drop] at h_; exact h_⟩, LI, HG2⟩
  · rw [if_neg hz] at h
    cases h

/-! ### spec_PathLoops: function 22 -/
def spec_PathLoops.l0 : Nat → List Int → Int → List (S50) → List (List Int) → List Int → Option (List Int)
  | 0, _, _, _, _, _ => none
  | k + 1, x3, x4, x258000, x258001, x258002 => if x4 < (x258000.length : Int) then ((spec_l17Below.f k x258000 x258001 x258002 x4).bind fun t259 => (if 0 ≤ x4 then (if x4 < (t259.length : Int) then (if rdOf false t259 x4 = true then (if x3.length < 17592186044416 then (spec_PathLoops.l0 k (x3 ++ [x4]) (wrap64 (x4 + 1)) x258000 x258001 x258002) else (none)) else (spec_PathLoops.l0 k x3 (wrap64 (x4 + 1)) x258000 x258001 x258002)) else (none)) else (none))) else (some x3)
def spec_PathLoops.f (k : Nat) (l0_0 : List (S50)) (l0_1 : List (List Int)) (l0_2 : List Int) : Option (List Int) := (spec_GraphOk.f k l0_0 l0_1 l0_2).bind fun t258 => (if t258 = true then (spec_PathLoops.l0 k ([] : List Int) 0 l0_0 l0_1 l0_2) else (some ([] : List Int)))
theorem spec_PathLoops.mono_l : ∀ k, (∀ y0 y1 y2 y3 y4, LeO (spec_PathLoops.l0 k y0 y1 y2 y3 y4) (spec_PathLoops.l0 (k + 1) y0 y1 y2 y3 y4))
  | 0 => fun _ _ _ _ _ r h => by simp [spec_PathLoops.l0] at h
  | k + 1 => by
    have ih0 := spec_PathLoops.mono_l k
    · intro y0 y1 y2 y3 y4
      unfold spec_PathLoops.l0
      repeat' first
      | (with_reducible exact ih0 _ _ _ _ _)
      | (with_reducible exact spec_GraphOk.mono _ _ _ _)
      | (with_reducible exact spec_l17Below.mono _ _ _ _ _)
      | (with_reducible exact LeO.refl _)
      | (with_reducible exact LeO.none _)
      | (with_reducible refine LeO.ite ?_ ?_)
      | (with_reducible refine LeO.bind ?_ (fun _ => ?_))
      | exact ih0 _ _ _ _ _
      | exact spec_GraphOk.mono _ _ _ _
      | exact spec_l17Below.mono _ _ _ _ _
      | exact LeO.none _
      | refine LeO.ite ?_ ?_
      | refine LeO.bind ?_ (fun _ => ?_)
theorem spec_PathLoops.mono : ∀ a0 a1 a2 k, LeO (spec_PathLoops.f k a0 a1 a2) (spec_PathLoops.f (k + 1) a0 a1 a2) := by
  intro a0 a1 a2 k
  have ih0 := spec_PathLoops.mono_l k
  unfold spec_PathLoops.f
  repeat' first
      | (with_reducible exact ih0 _ _ _ _ _)
      | (with_reducible exact spec_GraphOk.mono _ _ _ _)
      | (with_reducible exact spec_l17Below.mono _ _ _ _ _)
      | (with_reducible exact LeO.refl _)
      | (with_reducible exact LeO.none _)
      | (with_reducible refine LeO.ite ?_ ?_)
      | (with_reducible refine LeO.bind ?_ (fun _ => ?_))
      | exact ih0 _ _ _ _ _
      | exact spec_GraphOk.mono _ _ _ _
      | exact spec_l17Below.mono _ _ _ _ _
      | exact LeO.none _
      | refine LeO.ite ?_ ?_
      | refine LeO.bind ?_ (fun _ => ?_)
set_option maxHeartbeats 8000000 in
set_option maxRecDepth 100000 in
theorem spec_PathLoops.calls (k : Nat) (A0_0 : Option Addr) (c0_0 : Nat) (l0_0 : List (S50)) (A0_1 : Option Addr) (c0_1 : Nat) (l0_1 : List (List Int)) (A0_2 : Option Addr) (c0_2 : Nat) (l0_2 : List Int) (r : List Int) (w : World) (hr0_0 : Kd.C k50 w A0_0 l0_0.length l0_0) (hc0_0 : l0_0.length ≤ c0_0) (hr0_1 : Kd.C (Kd.slice 3 (Kd.int .i64)) w A0_1 l0_1.length l0_1) (hc0_1 : l0_1.length ≤ c0_1) (hr0_2 : Kd.C (Kd.int .i64) w A0_2 l0_2.length l0_2) (hc0_2 : l0_2.length ≤ c0_2) (h : spec_PathLoops.f k l0_0 l0_1 l0_2 = some r) :
    Calls Try.prog 22 #[.agg #[.slice A0_0 l0_0.length c0_0, .slice A0_1 l0_1.length c0_1, .slice A0_2 l0_2.length c0_2]] w fun e w' => ∃ v0_ : Value, e = .returned (v0_) ∧ Kd.R (Kd.int .i64) 3 w' w.heap.size (fun _ => True) v0_ r ∧ Below w.heap.size w w' := by
  have hu26 := Try.underlying26
  have HR0_0 := Aside0.mk hr0_0
  have HC0_0 := Aside0.mk hc0_0
  clear hr0_0 hc0_0
  have HR0_1 := Aside0.mk hr0_1
  have HC0_1 := Aside0.mk hc0_1
  clear hr0_1 hc0_1
  have HR0_2 := Aside0.mk hr0_2
  have HC0_2 := Aside0.mk hc0_2
  clear hr0_2 hc0_2
  have HB := Aside0.mk (Below.refl w.heap.size w)
  have H : ((spec_GraphOk.f k l0_0 l0_1 l0_2).bind fun t258 => (if t258 = true then (spec_PathLoops.l0 k ([] : List Int) 0 l0_0 l0_1 l0_2) else (some ([] : List Int)))) = some r := h
  clear h
  replace H := Option.bind_eq_some_iff.mp H
  obtain ⟨t258, A20, H⟩ := H
  replace H : (if t258 = true then (spec_PathLoops.l0 k ([] : List Int) 0 l0_0 l0_1 l0_2) else (some ([] : List Int))) = some r := H
  have A2 := Aside0.mk A20
  clear A20
  by_cases c3 : t258 = true
  · subst c3
    have H1 : (spec_PathLoops.l0 k ([] : List Int) 0 l0_0 l0_1 l0_2) = some r := by rw [if_pos rfl] at H; exact H
    clear H
    have H := H1
    clear H1
    have H' := Aside0.mk H
    clear H
    go_enter Try.func22, Try.ntmps22
    go_wp2_with (first | ((with_reducible refine gate_dst (N := 1) rfl ?_); refine box_event ?hg (N := 1) ?hd (cs := #[.slice A0_0 l0_0.length c0_0, .slice A0_1 l0_1.length c0_1, .slice A0_2 l0_2.length c0_2]) (t := 26) ?hr ?_; (case hd => rfl); (case hg => rfl); (case hr => first | (go_simp; done) | (go_simp; rfl)); intro gb257 hg w4 hbox hb; have n0_ := Aside0.mk (below_step (by repeat (first | (with_reducible first | exact HB.out | apply below_alloc | apply pw_below_drewN | apply below_drew1) | exact HB.out)) hb); have n1_ := Aside0.mk (hbox); have n2_ := Aside0.mk ((by rw [hg]; exact (below_size (by repeat (first | (with_reducible first | exact HB.out | apply below_alloc | apply pw_below_drewN | apply below_drew1) | exact HB.out))) : w.heap.size ≤ gb257)); have n3_ := Aside0.mk ((by rw [hg]; exact (below_size (by repeat (first | (with_reducible first | exact HB.out | apply below_alloc | apply pw_below_drewN | apply below_drew1) | exact HB.out))) : w.heap.size ≤ gb257)); clear HB; have HB := n0_; have BK257 := n1_; have GW257 := n2_; have GE257 := n3_; clear n0_ n1_ n2_ n3_; clear hb hbox hg; have hcz5_0 : w4.cell? ⟨gb257, 0, none⟩ = some (.slice A0_0 l0_0.length c0_0) := (blk_cell BK257.out 0).trans rfl; have hcz5_1 : w4.cell? ⟨gb257, 1, none⟩ = some (.slice A0_1 l0_1.length c0_1) := (blk_cell BK257.out 1).trans rfl; have hcz5_2 : w4.cell? ⟨gb257, 2, none⟩ = some (.slice A0_2 l0_2.length c0_2) := (blk_cell BK257.out 2).trans rfl; have hfz5_0 := blk_frozen BK257.out 0; have hfz5_1 := blk_frozen BK257.out 1; have hfz5_2 := blk_frozen BK257.out 2) | ((with_reducible refine gate_callee (f := 14) rfl ?_); refine goesL_ (some 7) rfl rfl Try.func14 (by kernel_rfl) rfl #[.agg #[.slice A0_0 l0_0.length c0_0, .slice A0_1 l0_1.length c0_1, .slice A0_2 l0_2.length c0_2]] rfl (by (try simp only [List.map_toArray, List.map_cons, List.map_nil]); first | done | rfl | (simp only [List.length_drop, List.length_take]; rfl)) ?_; (with_reducible refine (spec_GraphOk.calls k _ _ l0_0 _ _ l0_1 _ _ l0_2 true _ ?side1 ?side2 ?side3 ?side4 ?side5 ?side6 A2.out).mono ?_); (case side1 => repeat (first | exact (Kd.C_below HR0_0.out HB.out) | (with_reducible refine Kd.C_alloc ?_ _) | (with_reducible refine Kd.C_drewN ?_ _) | (with_reducible refine Kd.C_drew ?_))); (case side2 => exact HC0_0.out); (case side3 => repeat (first | exact (Kd.C_below HR0_1.out HB.out) | (with_reducible refine Kd.C_alloc ?_ _) | (with_reducible refine Kd.C_drewN ?_ _) | (with_reducible refine Kd.C_drew ?_))); (case side4 => exact HC0_1.out); (case side5 => repeat (first | exact (Kd.C_below HR0_2.out HB.out) | (with_reducible refine Kd.C_alloc ?_ _) | (with_reducible refine Kd.C_drewN ?_ _) | (with_reducible refine Kd.C_drew ?_))); (case side6 => exact HC0_2.out); rintro e w6 ⟨rfl, hb⟩; refine ⟨_, rfl, ?_⟩; have n0_ := Aside0.mk (blk_below (g := gb257) (o := .cells #[.slice A0_0 l0_0.length c0_0, .slice A0_1 l0_1.length c0_1, .slice A0_2 l0_2.length c0_2] 26 (0, 0)) (by (with_reducible repeat (first | refine blk_drewN ?_ _ | refine blk_drew ?_ | refine blk_alloc ?_ _)); exact BK257.out) hb); have n1_ := Aside0.mk (below_step (by repeat (first | (with_reducible first | exact HB.out | apply below_alloc | apply pw_below_drewN | apply below_drew1 | refine below_set ?_ GE257.out) | exact HB.out)) hb); clear BK257; clear HB; have BK257 := n0_; have HB := n1_; clear n0_ n1_; (try clear hb); (try clear hb2); (try clear hk); (try clear hi)))
    go_loopg [3, 4] k (fun kq v3 v4 w' => ∃ (x3_1 : List Int) (x4_1 : Int), v4 = .int .i64 x4_1 ∧ Aside0 (spec_PathLoops.l0 kq x3_1 x4_1 l0_0 l0_1 l0_2 = some r) ∧ Aside0 (kq ≤ k) ∧ Aside0 (Kd.R (Kd.int .i64) 3 w' w.heap.size (fun _ => True) v3 x3_1) ∧ Aside0 (w'.heap[gb257]? = some (.cells #[(.slice A0_0 l0_0.length c0_0), (.slice A0_1 l0_1.length c0_1), (.slice A0_2 l0_2.length c0_2)] 26 (0, 0))) ∧ Aside0 (Below w.heap.size w w'))
    case atStart => exact ⟨(([] : List Int)), (0), (by first | rfl | (simp; done) | (simp [*]; done)), H', ⟨Nat.le_refl _⟩, ⟨by first | exact Kd.R_nil _ _ _ _ _ | exact Kd.N_nil _ _ _ _ _ | exact Kd.V_nil _ _ _ _ _ | exact Kd.Q_nil _ _ _ _ _ | exact Kd.S_nil _ _ _ _ _⟩, ⟨by (with_reducible repeat (first | refine blk_drewN ?_ _ | refine blk_drew ?_ | refine blk_alloc ?_ _)); exact BK257.out⟩, ⟨by repeat (first | (with_reducible first | exact HB.out | apply below_alloc | apply pw_below_drewN | apply below_drew1 | refine below_set ?_ GE257.out) | exact HB.out)⟩⟩
    case round =>
      clear H'
      try clear c1
      try clear c2
      try clear p2
      try clear c3
      try clear hcz5_0
      try clear hcz5_1
      try clear hcz5_2
      try clear hfz5_0
      try clear hfz5_1
      try clear hfz5_2
      obtain ⟨x3_1, x4_1, rfl, HA, HK1, HO_3, BK257, HB⟩ := hrel
      cases gk with
      | zero => exact absurd HA.out (by simp [spec_PathLoops.l0])
      | succ k1 =>
        have H := HA.out
        clear HA
        simp only [spec_PathLoops.l0] at H
        by_cases c7 : x4_1 < (l0_0.length : Int)
        · rw [if_pos c7] at H
          have c7b0 : decide (x4_1 < (l0_0.length : Int)) = true := decide_eq_true c7
          clear c7
          replace H := Option.bind_eq_some_iff.mp H
          obtain ⟨t259, A80, H⟩ := H
          replace H : (if 0 ≤ x4_1 then (if x4_1 < (t259.length : Int) then (if rdOf false t259 x4_1 = true then (if x3_1.length < 17592186044416 then (spec_PathLoops.l0 k1 (x3_1 ++ [x4_1]) (wrap64 (x4_1 + 1)) l0_0 l0_1 l0_2) else (none)) else (spec_PathLoops.l0 k1 x3_1 (wrap64 (x4_1 + 1)) l0_0 l0_1 l0_2)) else (none)) else (none)) = some r := H
          have A8 := Aside0.mk A80
          clear A80
          by_cases c9 : 0 ≤ x4_1
          · rw [if_pos c9] at H
            have c9b0 : decide (0 ≤ x4_1) = true := decide_eq_true c9
            clear c9
            by_cases c10 : x4_1 < (t259.length : Int)
            · rw [if_pos c10] at H
              have c10b0 : decide (x4_1 < (t259.length : Int)) = true := decide_eq_true c10
              clear c10
              obtain ⟨bq11, hbq11⟩ : ∃ b_ : Bool, b_ = (rdOf false t259 x4_1) := ⟨_, rfl⟩
              replace H : (if bq11 = true then (if x3_1.length < 17592186044416 then (spec_PathLoops.l0 k1 (x3_1 ++ [x4_1]) (wrap64 (x4_1 + 1)) l0_0 l0_1 l0_2) else (none)) else (spec_PathLoops.l0 k1 x3_1 (wrap64 (x4_1 + 1)) l0_0 l0_1 l0_2)) = some r := by rw [← hbq11] at H; exact H
              have Nbq11 := Aside0.mk hbq11
              clear hbq11
              by_cases c12 : bq11 = true
              · subst c12
                have H1 : (if x3_1.length < 17592186044416 then (spec_PathLoops.l0 k1 (x3_1 ++ [x4_1]) (wrap64 (x4_1 + 1)) l0_0 l0_1 l0_2) else (none)) = some r := by rw [if_pos rfl] at H; exact H
                clear H
                have H := H1
                clear H1
                by_cases c13 : x3_1.length < 17592186044416
                · rw [if_pos c13] at H
                  have LMc13 := Aside0.mk c13
                  clear c13
                  obtain ⟨y263, hy263⟩ : ∃ y_ : List Int, y_ = (x3_1 ++ [x4_1]) := ⟨_, rfl⟩
                  replace H : (spec_PathLoops.l0 k1 y263 (wrap64 (x4_1 + 1)) l0_0 l0_1 l0_2) = some r := by first | (rw [hy263]; with_reducible exact H) | (have H2_ := (Option.bind_some _ _).symm.trans H; rw [hy263]; with_reducible exact H2_) | (have H2_ := (Option.bind_some _ _).symm.trans H; with_reducible exact H2_) | with_reducible exact H | (rw [hy263]; exact H) | exact H
                  have Ny263 := Aside0.mk hy263
                  clear hy263
                  have H' := Aside0.mk H
                  clear H
                  have hcz14_0 : wr.cell? ⟨gb257, 0, none⟩ = some (.slice A0_0 l0_0.length c0_0) := (blk_cell BK257.out 0).trans rfl
                  have hcz14_1 : wr.cell? ⟨gb257, 1, none⟩ = some (.slice A0_1 l0_1.length c0_1) := (blk_cell BK257.out 1).trans rfl
                  have hcz14_2 : wr.cell? ⟨gb257, 2, none⟩ = some (.slice A0_2 l0_2.length c0_2) := (blk_cell BK257.out 2).trans rfl
                  have hfz14_0 := blk_frozen BK257.out 0
                  have hfz14_1 := blk_frozen BK257.out 1
                  have hfz14_2 := blk_frozen BK257.out 2
                  go_wp2_with (first | ((with_reducible refine gate_callee (f := 46) rfl ?_); refine goesL_ (some 18) rfl rfl Try.func46 (by kernel_rfl) rfl #[.agg #[.slice A0_0 l0_0.length c0_0, .slice A0_1 l0_1.length c0_1, .slice A0_2 l0_2.length c0_2], .int .i64 x4_1] rfl (by (try simp only [List.map_toArray, List.map_cons, List.map_nil]); first | done | rfl | (simp only [List.length_drop, List.length_take]; rfl)) ?_; (with_reducible refine (spec_l17Below.calls k1 _ _ l0_0 _ _ l0_1 _ _ l0_2 x4_1 t259 _ ?side1 ?side2 ?side3 ?side4 ?side5 ?side6 A8.out).mono ?_); (case side1 => repeat (first | exact (Kd.C_below HR0_0.out HB.out) | (with_reducible refine Kd.C_alloc ?_ _) | (with_reducible refine Kd.C_drewN ?_ _) | (with_reducible refine Kd.C_drew ?_))); (case side2 => exact HC0_0.out); (case side3 => repeat (first | exact (Kd.C_below HR0_1.out HB.out) | (with_reducible refine Kd.C_alloc ?_ _) | (with_reducible refine Kd.C_drewN ?_ _) | (with_reducible refine Kd.C_drew ?_))); (case side4 => exact HC0_1.out); (case side5 => repeat (first | exact (Kd.C_below HR0_2.out HB.out) | (with_reducible refine Kd.C_alloc ?_ _) | (with_reducible refine Kd.C_drewN ?_ _) | (with_reducible refine Kd.C_drew ?_))); (case side6 => exact HC0_2.out); rintro e w15 ⟨v260, rfl, ho0, hb⟩; refine ⟨_, rfl, ?_⟩; have n0_ := Aside0.mk (Kd.R_below (by (with_reducible repeat (first | apply Kd.R_alloc | apply Kd.R_drewN | apply Kd.R_drew)); exact HO_3.out) hb); have n1_ := Aside0.mk (Kd.R_lower ho0 (below_size (by repeat (first | (with_reducible first | exact HB.out | apply below_alloc | apply pw_below_drewN | apply below_drew1 | refine below_set ?_ GE257.out) | exact HB.out)))); have n2_ := Aside0.mk (blk_below (g := gb257) (o := .cells #[.slice A0_0 l0_0.length c0_0, .slice A0_1 l0_1.length c0_1, .slice A0_2 l0_2.length c0_2] 26 (0, 0)) (by (with_reducible repeat (first | refine blk_drewN ?_ _ | refine blk_drew ?_ | refine blk_alloc ?_ _)); exact BK257.out) hb); have n3_ := Aside0.mk (below_step (by repeat (first | (with_reducible first | exact HB.out | apply below_alloc | apply pw_below_drewN | apply below_drew1 | refine below_set ?_ GE257.out) | exact HB.out)) hb); clear HO_3; clear BK257; clear HB; have HO_3 := n0_; have HO261 := n1_; have BK257 := n2_; have HB := n3_; clear n0_ n1_ n2_ n3_; (try clear hb); (try clear hb2); (try clear hk); (try clear hi); (try clear ho0); obtain ⟨Ao16, co16, eo16⟩ := Kd.R_slice HO261.out; subst eo16; have p262 : 0 ≤ (x4_1 : Int) := of_decide_eq_true (by first | (with_reducible assumption) | assumption); have q262 : x4_1 < (t259.length : Int) := of_decide_eq_true (by first | (with_reducible assumption) | assumption); obtain ⟨ad262, e262, hx262_0⟩ := Kd.at_bool (Kd.R_reads' HO261.out).2.2 x4_1 p262 q262; (try rw [← Nbq11.out] at hx262_0); cases e262; replace p262 := eq_true p262; replace q262 := eq_true q262) | ((with_reducible refine gate_builtin (b := .append) (xs := #[.tmp 23, .tmp 25]) rfl ?_); at_builtin; refine Kd.R_append (Kd.int .i64) (w0 := w) w.heap.size rfl (.tmp 23) (.tmp 25) 24 3 (.int .i64 0) 8 rfl Try.underlying24 info3 rfl (by decide) (by omega) u3 x3_1 x4_1 [.int .i64 x4_1] (fun _ => True) (fun _ => False) rfl rfl ?aP (fun _ hk => hk.elim) ?aF ?aO ?aB ?aS ?aL ?_; (case aP => exact rfl); (case aB => exact (by repeat (first | (with_reducible first | exact HB.out | apply below_alloc | apply pw_below_drewN | apply below_drew1 | refine below_set ?_ GE257.out) | exact HB.out))); (case aF => exact (fun _ _ => trivial)); (case aO => exact (by (with_reducible repeat (first | apply Kd.R_alloc | apply Kd.R_drewN | apply Kd.R_drew)); exact HO_3.out)); (case aS => exact (below_size (by repeat (first | (with_reducible first | exact HB.out | apply below_alloc | apply pw_below_drewN | apply below_drew1 | refine below_set ?_ GE257.out) | exact HB.out)))); (case aL => have := LMc13.out; omega); intro v264 w17 ho hb hg hat; rw [← Ny263.out] at ho; have n0_ := Aside0.mk (blk_grown (g := gb257) (o := .cells #[.slice A0_0 l0_0.length c0_0, .slice A0_1 l0_1.length c0_1, .slice A0_2 l0_2.length c0_2] 26 (0, 0)) (by (with_reducible repeat (first | refine blk_drewN ?_ _ | refine blk_drew ?_ | refine blk_alloc ?_ _)); exact BK257.out) hg (Kd.R_ne HO_3.out BK257.out (by decide))); have n1_ := Aside0.mk (Kd.R_over' (by (with_reducible repeat (first | apply Kd.R_alloc | apply Kd.R_drewN | apply Kd.R_drew)); exact HO261.out) (Kd.R_typed (by (with_reducible repeat (first | apply Kd.R_alloc | apply Kd.R_drewN | apply Kd.R_drew)); exact HO_3.out)) (by decide) hg); have n2_ := Aside0.mk (hb); have n3_ := Aside0.mk (ho); clear BK257; clear HO261; clear HB; clear HO_3; have BK257 := n0_; have HO261 := n1_; have HB := n2_; have HO265 := n3_; clear n0_ n1_ n2_ n3_; clear ho hb hg hat))
                  go_roundg k1
                  case measure => have := HK1.out; omega
                  case rel => exact ⟨(y263), (wrap64 (x4_1 + 1)), (by first | rfl | (simp; done) | (simp [*]; done)), H', ⟨by have := HK1.out; omega⟩, ⟨by (with_reducible repeat (first | apply Kd.R_alloc | apply Kd.R_drewN | apply Kd.R_drew)); exact HO265.out⟩, ⟨by (with_reducible repeat (first | refine blk_drewN ?_ _ | refine blk_drew ?_ | refine blk_alloc ?_ _)); exact BK257.out⟩, ⟨by repeat (first | (with_reducible first | exact HB.out | apply below_alloc | apply pw_below_drewN | apply below_drew1 | refine below_set ?_ GE257.out) | exact HB.out)⟩⟩
                · rw [if_neg c13] at H
                  exact absurd H (by simp)
              · replace c12 := Bool.eq_false_iff.mpr c12
                subst c12
                have H1 : (spec_PathLoops.l0 k1 x3_1 (wrap64 (x4_1 + 1)) l0_0 l0_1 l0_2) = some r := by rw [if_neg (show ¬ (false = true) by decide)] at H; exact H
                clear H
                have H := H1
                clear H1
                have H' := Aside0.mk H
                clear H
                have hcz18_0 : wr.cell? ⟨gb257, 0, none⟩ = some (.slice A0_0 l0_0.length c0_0) := (blk_cell BK257.out 0).trans rfl
                have hcz18_1 : wr.cell? ⟨gb257, 1, none⟩ = some (.slice A0_1 l0_1.length c0_1) := (blk_cell BK257.out 1).trans rfl
                have hcz18_2 : wr.cell? ⟨gb257, 2, none⟩ = some (.slice A0_2 l0_2.length c0_2) := (blk_cell BK257.out 2).trans rfl
                have hfz18_0 := blk_frozen BK257.out 0
                have hfz18_1 := blk_frozen BK257.out 1
                have hfz18_2 := blk_frozen BK257.out 2
                go_wp2_with (first | ((with_reducible refine gate_callee (f := 46) rfl ?_); refine goesL_ (some 18) rfl rfl Try.func46 (by kernel_rfl) rfl #[.agg #[.slice A0_0 l0_0.length c0_0, .slice A0_1 l0_1.length c0_1, .slice A0_2 l0_2.length c0_2], .int .i64 x4_1] rfl (by (try simp only [List.map_toArray, List.map_cons, List.map_nil]); first | done | rfl | (simp only [List.length_drop, List.length_take]; rfl)) ?_; (with_reducible refine (spec_l17Below.calls k1 _ _ l0_0 _ _ l0_1 _ _ l0_2 x4_1 t259 _ ?side1 ?side2 ?side3 ?side4 ?side5 ?side6 A8.out).mono ?_); (case side1 => repeat (first | exact (Kd.C_below HR0_0.out HB.out) | (with_reducible refine Kd.C_alloc ?_ _) | (with_reducible refine Kd.C_drewN ?_ _) | (with_reducible refine Kd.C_drew ?_))); (case side2 => exact HC0_0.out); (case side3 => repeat (first | exact (Kd.C_below HR0_1.out HB.out) | (with_reducible refine Kd.C_alloc ?_ _) | (with_reducible refine Kd.C_drewN ?_ _) | (with_reducible refine Kd.C_drew ?_))); (case side4 => exact HC0_1.out); (case side5 => repeat (first | exact (Kd.C_below HR0_2.out HB.out) | (with_reducible refine Kd.C_alloc ?_ _) | (with_reducible refine Kd.C_drewN ?_ _) | (with_reducible refine Kd.C_drew ?_))); (case side6 => exact HC0_2.out); rintro e w19 ⟨v260, rfl, ho0, hb⟩; refine ⟨_, rfl, ?_⟩; have n0_ := Aside0.mk (Kd.R_below (by (with_reducible repeat (first | apply Kd.R_alloc | apply Kd.R_drewN | apply Kd.R_drew)); exact HO_3.out) hb); have n1_ := Aside0.mk (Kd.R_lower ho0 (below_size (by repeat (first | (with_reducible first | exact HB.out | apply below_alloc | apply pw_below_drewN | apply below_drew1 | refine below_set ?_ GE257.out) | exact HB.out)))); have n2_ := Aside0.mk (blk_below (g := gb257) (o := .cells #[.slice A0_0 l0_0.length c0_0, .slice A0_1 l0_1.length c0_1, .slice A0_2 l0_2.length c0_2] 26 (0, 0)) (by (with_reducible repeat (first | refine blk_drewN ?_ _ | refine blk_drew ?_ | refine blk_alloc ?_ _)); exact BK257.out) hb); have n3_ := Aside0.mk (below_step (by repeat (first | (with_reducible first | exact HB.out | apply below_alloc | apply pw_below_drewN | apply below_drew1 | refine below_set ?_ GE257.out) | exact HB.out)) hb); clear HO_3; clear BK257; clear HB; have HO_3 := n0_; have HO261 := n1_; have BK257 := n2_; have HB := n3_; clear n0_ n1_ n2_ n3_; (try clear hb); (try clear hb2); (try clear hk); (try clear hi); (try clear ho0); obtain ⟨Ao20, co20, eo20⟩ := Kd.R_slice HO261.out; subst eo20; have p262 : 0 ≤ (x4_1 : Int) := of_decide_eq_true (by first | (with_reducible assumption) | assumption); have q262 : x4_1 < (t259.length : Int) := of_decide_eq_true (by first | (with_reducible assumption) | assumption); obtain ⟨ad262, e262, hx262_0⟩ := Kd.at_bool (Kd.R_reads' HO261.out).2.2 x4_1 p262 q262; (try rw [← Nbq11.out] at hx262_0); cases e262; replace p262 := eq_true p262; replace q262 := eq_true q262))
                go_roundg k1
                case measure => have := HK1.out; omega
                case rel => exact ⟨(x3_1), (wrap64 (x4_1 + 1)), (by first | rfl | (simp; done) | (simp [*]; done)), H', ⟨by have := HK1.out; omega⟩, ⟨by (with_reducible repeat (first | apply Kd.R_alloc | apply Kd.R_drewN | apply Kd.R_drew)); exact HO_3.out⟩, ⟨by (with_reducible repeat (first | refine blk_drewN ?_ _ | refine blk_drew ?_ | refine blk_alloc ?_ _)); exact BK257.out⟩, ⟨by repeat (first | (with_reducible first | exact HB.out | apply below_alloc | apply pw_below_drewN | apply below_drew1 | refine below_set ?_ GE257.out) | exact HB.out)⟩⟩
            · rw [if_neg c10] at H
              exact absurd H (by simp)
          · rw [if_neg c9] at H
            exact absurd H (by simp)
        · rw [if_neg c7] at H
          have c7b0 : decide (x4_1 < (l0_0.length : Int)) = false := decide_eq_false c7
          clear c7
          obtain rfl := Option.some.inj H
          have hcz21_0 : wr.cell? ⟨gb257, 0, none⟩ = some (.slice A0_0 l0_0.length c0_0) := (blk_cell BK257.out 0).trans rfl
          have hcz21_1 : wr.cell? ⟨gb257, 1, none⟩ = some (.slice A0_1 l0_1.length c0_1) := (blk_cell BK257.out 1).trans rfl
          have hcz21_2 : wr.cell? ⟨gb257, 2, none⟩ = some (.slice A0_2 l0_2.length c0_2) := (blk_cell BK257.out 2).trans rfl
          have hfz21_0 := blk_frozen BK257.out 0
          have hfz21_1 := blk_frozen BK257.out 1
          have hfz21_2 := blk_frozen BK257.out 2
          go_wp2
          go_ret
          exact ⟨_, by first | rfl | (simp [errW_none, errW_some] <;> rfl) | (simp [*, errW_none, errW_some] <;> rfl), by (with_reducible repeat (first | apply Kd.R_alloc | apply Kd.R_drewN | apply Kd.R_drew)); exact HO_3.out, by repeat (first | (with_reducible first | exact HB.out | apply below_alloc | apply pw_below_drewN | apply below_drew1 | refine below_set ?_ GE257.out) | exact HB.out)⟩
  · replace c3 := Bool.eq_false_iff.mpr c3
    subst c3
    have H1 : (some ([] : List Int)) = some r := by rw [if_neg (show ¬ (false = true) by decide)] at H; exact H
    clear H
    have H := H1
    clear H1
    obtain rfl := Option.some.inj H
    go_enter Try.func22, Try.ntmps22
    go_wp2_with (first | ((with_reducible refine gate_dst (N := 1) rfl ?_); refine box_event ?hg (N := 1) ?hd (cs := #[.slice A0_0 l0_0.length c0_0, .slice A0_1 l0_1.length c0_1, .slice A0_2 l0_2.length c0_2]) (t := 26) ?hr ?_; (case hd => rfl); (case hg => rfl); (case hr => first | (go_simp; done) | (go_simp; rfl)); intro gb257 hg w22 hbox hb; have n0_ := Aside0.mk (below_step (by repeat (first | (with_reducible first | exact HB.out | apply below_alloc | apply pw_below_drewN | apply below_drew1) | exact HB.out)) hb); have n1_ := Aside0.mk (hbox); have n2_ := Aside0.mk ((by rw [hg]; exact (below_size (by repeat (first | (with_reducible first | exact HB.out | apply below_alloc | apply pw_below_drewN | apply below_drew1) | exact HB.out))) : w.heap.size ≤ gb257)); have n3_ := Aside0.mk ((by rw [hg]; exact (below_size (by repeat (first | (with_reducible first | exact HB.out | apply below_alloc | apply pw_below_drewN | apply below_drew1) | exact HB.out))) : w.heap.size ≤ gb257)); clear HB; have HB := n0_; have BK257 := n1_; have GW257 := n2_; have GE257 := n3_; clear n0_ n1_ n2_ n3_; clear hb hbox hg; have hcz23_0 : w22.cell? ⟨gb257, 0, none⟩ = some (.slice A0_0 l0_0.length c0_0) := (blk_cell BK257.out 0).trans rfl; have hcz23_1 : w22.cell? ⟨gb257, 1, none⟩ = some (.slice A0_1 l0_1.length c0_1) := (blk_cell BK257.out 1).trans rfl; have hcz23_2 : w22.cell? ⟨gb257, 2, none⟩ = some (.slice A0_2 l0_2.length c0_2) := (blk_cell BK257.out 2).trans rfl; have hfz23_0 := blk_frozen BK257.out 0; have hfz23_1 := blk_frozen BK257.out 1; have hfz23_2 := blk_frozen BK257.out 2) | ((with_reducible refine gate_callee (f := 14) rfl ?_); refine goesL_ (some 7) rfl rfl Try.func14 (by kernel_rfl) rfl #[.agg #[.slice A0_0 l0_0.length c0_0, .slice A0_1 l0_1.length c0_1, .slice A0_2 l0_2.length c0_2]] rfl (by (try simp only [List.map_toArray, List.map_cons, List.map_nil]); first | done | rfl | (simp only [List.length_drop, List.length_take]; rfl)) ?_; (with_reducible refine (spec_GraphOk.calls k _ _ l0_0 _ _ l0_1 _ _ l0_2 false _ ?side1 ?side2 ?side3 ?side4 ?side5 ?side6 A2.out).mono ?_); (case side1 => repeat (first | exact (Kd.C_below HR0_0.out HB.out) | (with_reducible refine Kd.C_alloc ?_ _) | (with_reducible refine Kd.C_drewN ?_ _) | (with_reducible refine Kd.C_drew ?_))); (case side2 => exact HC0_0.out); (case side3 => repeat (first | exact (Kd.C_below HR0_1.out HB.out) | (with_reducible refine Kd.C_alloc ?_ _) | (with_reducible refine Kd.C_drewN ?_ _) | (with_reducible refine Kd.C_drew ?_))); (case side4 => exact HC0_1.out); (case side5 => repeat (first | exact (Kd.C_below HR0_2.out HB.out) | (with_reducible refine Kd.C_alloc ?_ _) | (with_reducible refine Kd.C_drewN ?_ _) | (with_reducible refine Kd.C_drew ?_))); (case side6 => exact HC0_2.out); rintro e w24 ⟨rfl, hb⟩; refine ⟨_, rfl, ?_⟩; have n0_ := Aside0.mk (blk_below (g := gb257) (o := .cells #[.slice A0_0 l0_0.length c0_0, .slice A0_1 l0_1.length c0_1, .slice A0_2 l0_2.length c0_2] 26 (0, 0)) (by (with_reducible repeat (first | refine blk_drewN ?_ _ | refine blk_drew ?_ | refine blk_alloc ?_ _)); exact BK257.out) hb); have n1_ := Aside0.mk (below_step (by repeat (first | (with_reducible first | exact HB.out | apply below_alloc | apply pw_below_drewN | apply below_drew1 | refine below_set ?_ GE257.out) | exact HB.out)) hb); clear BK257; clear HB; have BK257 := n0_; have HB := n1_; clear n0_ n1_; (try clear hb); (try clear hb2); (try clear hk); (try clear hi)))
    go_ret
    exact ⟨_, by first | rfl | (simp [errW_none, errW_some] <;> rfl) | (simp [*, errW_none, errW_some] <;> rfl), by first | exact Kd.R_nil _ _ _ _ _ | exact Kd.N_nil _ _ _ _ _ | exact Kd.V_nil _ _ _ _ _ | exact Kd.Q_nil _ _ _ _ _ | exact Kd.S_nil _ _ _ _ _, by repeat (first | (with_reducible first | exact HB.out | apply below_alloc | apply pw_below_drewN | apply below_drew1 | refine below_set ?_ GE257.out) | exact HB.out)⟩

-- NOT PRINTED: function 61 (slices_IndexFunc_int_int)

-- NOT PRINTED: function 55 (slices_ContainsFunc_int_int)

/-! ### impl_Graph_leads: function 43 -/
def offP (low N : Int) (n : Int) : Bool := decide (n < low) || decide (N ≤ n)
def impl_Graph_leads.f (l0_0 : List S50) (l0_1 : List (List Int)) (l0_2 : List Int) (l1 : List Int) (a2 : Int) : Option Bool := some (!(l1.any (offP a2 (l0_0.length : Int))))
theorem pred56 (low : Int) (m cn : Nat) (A : Option Addr) (B1 B2 : Nat) (w : World) (h1 : B1 < w.heap.size) (h2 : B2 < w.heap.size) (hc1 : w.cell? ⟨B1, 0, none⟩ = some (.int .i64 low)) (hc2 : w.cell? ⟨B2, 0, none⟩ = some (.slice A m cn)) :
    PredAt Try.prog 56 #[.pointer (some ⟨B1, 0, none⟩), .pointer (some ⟨B2, 0, none⟩)] (Value.int .i64) (offP low (m : Int)) w := fun W x hb => by
  have hd1 : W.cell? ⟨B1, 0, none⟩ = some (.int .i64 low) := (hb.cell (p := ⟨B1, 0, none⟩) h1).trans hc1
  have hd2 : W.cell? ⟨B2, 0, none⟩ = some (.slice A m cn) := (hb.cell (p := ⟨B2, 0, none⟩) h2).trans hc2
  clear hc1 hc2 h1 h2 hb
  show Calls Try.prog 56 #[.int .i64 x, .pointer (some ⟨B1, 0, none⟩), .pointer (some ⟨B2, 0, none⟩)] W _
  unfold offP
  by_cases h : x < low
  · have g1 : decide (x < low) = true := decide_eq_true h
    clear h
    go_enter Try.func56, Try.ntmps56
    go_wp2
    go_ret
    exact ⟨by rw [g1]; first | rfl | simp_all, ⟨0, rfl⟩⟩
  · have g1 : decide (x < low) = false := decide_eq_false h
    clear h
    by_cases h : (m : Int) ≤ x
    · have g2 : decide ((m : Int) ≤ x) = true := decide_eq_true h
      clear h
      go_enter Try.func56, Try.ntmps56
      go_wp2
      go_ret
      exact ⟨by rw [g1, g2]; first | rfl | simp_all, ⟨0, rfl⟩⟩
    · have g2 : decide ((m : Int) ≤ x) = false := decide_eq_false h
      clear h
      go_enter Try.func56, Try.ntmps56
      go_wp2
      go_ret
      exact ⟨by rw [g1, g2]; first | rfl | simp_all, ⟨0, rfl⟩⟩
theorem impl_Graph_leads.calls (A0_0 : Option Addr) (c0_0 : Nat) (l0_0 : List (S50)) (A0_1 : Option Addr) (c0_1 : Nat) (l0_1 : List (List Int)) (A0_2 : Option Addr) (c0_2 : Nat) (l0_2 : List Int) (A1 : Option Addr) (c1 : Nat) (l1 : List Int) (a2 : Int) (r : Bool) (w : World) (hr0_0 : Kd.C k50 w A0_0 l0_0.length l0_0) (hc0_0 : l0_0.length ≤ c0_0) (hr0_1 : Kd.C (Kd.slice 3 (Kd.int .i64)) w A0_1 l0_1.length l0_1) (hc0_1 : l0_1.length ≤ c0_1) (hr0_2 : Kd.C (Kd.int .i64) w A0_2 l0_2.length l0_2) (hc0_2 : l0_2.length ≤ c0_2) (hr1 : Kd.C (Kd.int .i64) w A1 l1.length l1) (hc1 : l1.length ≤ c1) (h : impl_Graph_leads.f l0_0 l0_1 l0_2 l1 a2 = some r) :
    Calls Try.prog 43 #[.agg #[.slice A0_0 l0_0.length c0_0, .slice A0_1 l0_1.length c0_1, .slice A0_2 l0_2.length c0_2], .slice A1 l1.length c1, .int .i64 a2] w fun e w' => e = .returned (.bool r) ∧ Below w.heap.size w w' := by
  unfold impl_Graph_leads.f at h
  obtain rfl := Option.some.inj h
  clear hr0_0 hr0_1 hr0_2 hc0_0 hc0_1 hc0_2 h
  have eg : ∀ args w, (callFunc 56 args).run Try.prog w = .ok (.enter 56 args) w := Go.Proofs.enters_of Try.func56 (by kernel_rfl) rfl
  have hsz : ((w.alloc (.cells #[.slice A0_0 l0_0.length c0_0, .slice A0_1 l0_1.length c0_1, .slice A0_2 l0_2.length c0_2] 26)).alloc (.cells #[.int .i64 a2] 3)).heap.size = w.heap.size + 2 := by simp
  have hcon : Calls Try.prog 55 #[.slice A1 l1.length c1, .func (.func 56) #[] #[.pointer (some ⟨w.heap.size + 1, 0, none⟩), .pointer (some ⟨w.heap.size, 0, none⟩)]] ((w.alloc (.cells #[.slice A0_0 l0_0.length c0_0, .slice A0_1 l0_1.length c0_1, .slice A0_2 l0_2.length c0_2] 26)).alloc (.cells #[.int .i64 a2] 3))
      fun e w' => e = .returned (.bool (l1.any (offP a2 (l0_0.length : Int)))) ∧ ∃ q, w' = ((w.alloc (.cells #[.slice A0_0 l0_0.length c0_0, .slice A0_1 l0_1.length c0_1, .slice A0_2 l0_2.length c0_2] 26)).alloc (.cells #[.int .i64 a2] 3)).drewN q := by
    rcases Nat.eq_zero_or_pos l1.length with h0 | h0
    · obtain rfl := List.length_eq_zero_iff.1 h0
      refine (AnyE.slices_ContainsFunc_empty Try.laysCF A1 c1 _ _).mono fun e w' he => ?_
      obtain ⟨he, hw⟩ := he
      exact ⟨he, 0, hw⟩
    · have hrd := Kd.reads_of_C (d := (0 : Int)) hr1
      have hsmall := hr1.2.1
      obtain ⟨a, rfl, _⟩ := hrd.at_ ((0 : Nat) : Int) (by omega) (by omega)
      have hcell : ∀ j, j < l1.length → w.cell? (a.add j) = some (.int .i64 (l1.getD j 0)) := by
        intro j hj
        obtain ⟨ad, e, hx⟩ := hrd.at_ (j : Int) (by omega) (by omega)
        cases e
        simpa [rdOf] using hx
      obtain ⟨b, off, rfl, hc⟩ := ints_at hcell h0
      have := AnyE.slices_ContainsFunc Try.laysCF (Value.int .i64) (offP a2 (l0_0.length : Int)) 56 #[.pointer (some ⟨w.heap.size + 1, 0, none⟩), .pointer (some ⟨w.heap.size, 0, none⟩)] eg b off l1.length c1 l1 _
        (pred56 a2 l0_0.length c0_0 A0_0 (w.heap.size + 1) w.heap.size ((w.alloc (.cells #[.slice A0_0 l0_0.length c0_0, .slice A0_1 l0_1.length c0_1, .slice A0_2 l0_2.length c0_2] 26)).alloc (.cells #[.int .i64 a2] 3)) (by rw [hsz]; omega) (by rw [hsz]; omega) (by simp) (Lib.cell?_alloc_some _ (by simp))) (Nat.le_refl _) hsmall
        (fun j hj => Lib.cell?_alloc_some _ (Lib.cell?_alloc_some _ (by rw [hc j hj]; simp [hj])))
      rw [List.take_length] at this
      exact this
  generalize l1.any (offP a2 (l0_0.length : Int)) = r at hcon ⊢
  clear hr1 hc1 hsz
  go_enter Try.func43, Try.ntmps43
  go_wp2_with (go_at_call 55; refine hcon.mono ?_; rintro e w' ⟨rfl, q, rfl⟩)
  go_ret
  exact ⟨rfl, by (with_reducible repeat (first | apply pw_below_drewN | apply below_alloc)); exact Below.refl _ _⟩

end Go.Proofs.Ytdaikmojalfimaa.QFnExactPathLoops
