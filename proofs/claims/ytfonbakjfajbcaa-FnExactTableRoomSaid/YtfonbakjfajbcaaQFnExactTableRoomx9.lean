-- Written by a program of this session that drives the print of the kit, with contracts of its own beside the printed ones. Lean checks it.
import Derived.Test.YtfonbakjfajbcaaQFnExactTableRoomx0
import Derived.Test.YtfonbakjfajbcaaQFnExactTableRoomx6
import Derived.Test.YtfonbakjfajbcaaQFnExactTableRoomx8
namespace Go.Proofs.Ytfonbakjfajbcaa.QFnExactTableRoom
open Go.RowKit Go.Proofs.YtfonbakjfajbcaaW.PrintWords Go.Proofs.YtfonbakjfajbcaaW.PrintLast Go.Proofs.YtfonbakjfajbcaaW.PrintMore
attribute [local go_sem] max2_int min2_int max_two min_two max_three min_three max_four min_four   -- for this text's walks alone
set_option linter.unusedVariables false
set_option linter.unusedSimpArgs false

/-! ### impl_hasRegion: function 33 -/
def impl_hasRegion.f (k : Nat) (l0 : List (S41)) (a1 : Int) : Option (Bool) := (impl_TableOk.f k l0).bind fun t193 => (if t193 = true then (if a1 ≥ 1 then (some (decide (a1 < (l0.length : Int)))) else (some false)) else (some false))
theorem impl_hasRegion.mono : ∀ a0 a1 k, LeO (impl_hasRegion.f k a0 a1) (impl_hasRegion.f (k + 1) a0 a1) := by
  intro a0 a1 k
  unfold impl_hasRegion.f
  repeat' first
      | (with_reducible exact impl_TableOk.mono _ _)
      | (with_reducible exact LeO.refl _)
      | (with_reducible exact LeO.none _)
      | (with_reducible refine LeO.ite ?_ ?_)
      | (with_reducible refine LeO.bind ?_ (fun _ => ?_))
      | exact impl_TableOk.mono _ _
      | exact LeO.none _
      | refine LeO.ite ?_ ?_
      | refine LeO.bind ?_ (fun _ => ?_)
set_option maxHeartbeats 8000000 in
set_option maxRecDepth 100000 in
theorem impl_hasRegion.calls (k : Nat) (A0 : Option Addr) (c0 : Nat) (l0 : List (S41)) (a1 : Int) (r : Bool) (w : World) (hr0 : Kd.C k41 w A0 l0.length l0) (hc0 : l0.length ≤ c0) (h : impl_hasRegion.f k l0 a1 = some r) :
    Calls Try.prog 33 #[.slice A0 l0.length c0, .int .i64 a1] w fun e w' => e = .returned (.bool r) ∧ Below w.heap.size w w' := by
  have HR0 := Aside0.mk hr0
  have HC0 := Aside0.mk hc0
  clear hr0 hc0
  have HB := Aside0.mk (Below.refl w.heap.size w)
  have H : ((impl_TableOk.f k l0).bind fun t193 => (if t193 = true then (if a1 ≥ 1 then (some (decide (a1 < (l0.length : Int)))) else (some false)) else (some false))) = some r := h
  clear h
  replace H := Option.bind_eq_some_iff.mp H
  obtain ⟨t193, A30, H⟩ := H
  replace H : (if t193 = true then (if a1 ≥ 1 then (some (decide (a1 < (l0.length : Int)))) else (some false)) else (some false)) = some r := H
  have A3 := Aside0.mk A30
  clear A30
  by_cases c4 : t193 = true
  · subst c4
    have H1 : (if a1 ≥ 1 then (some (decide (a1 < (l0.length : Int)))) else (some false)) = some r := by rw [if_pos rfl] at H; exact H
    clear H
    have H := H1
    clear H1
    by_cases c5 : a1 ≥ 1
    · rw [if_pos c5] at H
      have c5b0 : decide (1 ≤ a1) = true := decide_eq_true c5
      clear c5
      obtain rfl := Option.some.inj H
      go_enter Try.func33, Try.ntmps33
      go_wp2_with (first | ((with_reducible refine gate_callee (f := 17) rfl ?_); refine goesL_ (some 6) rfl rfl Try.func17 (by kernel_rfl) rfl #[.slice A0 l0.length c0] rfl (by (try simp only [List.map_toArray, List.map_cons, List.map_nil]); first | done | rfl | (simp only [List.length_drop, List.length_take]; rfl)) ?_; (with_reducible refine (impl_TableOk.calls k _ _ l0 true _ ?side1 ?side2 A3.out).mono ?_); (case side1 => repeat (first | exact HR0.out | (with_reducible refine Kd.C_alloc ?_ _) | (with_reducible refine Kd.C_drewN ?_ _) | (with_reducible refine Kd.C_drew ?_))); (case side2 => exact HC0.out); rintro e w6 ⟨rfl, hb⟩; refine ⟨_, rfl, ?_⟩; have n0_ := Aside0.mk (below_step (by repeat (first | (with_reducible first | exact HB.out | apply below_alloc | apply pw_below_drewN | apply below_drew1) | exact HB.out)) hb); clear HB; have HB := n0_; clear n0_; (try clear hb); (try clear hb2); (try clear hk); (try clear hi)))
      go_ret
      exact ⟨by first | rfl | (simp [errW_none, errW_some] <;> rfl) | (simp [*, errW_none, errW_some] <;> rfl), by repeat (first | (with_reducible first | exact HB.out | apply below_alloc | apply pw_below_drewN | apply below_drew1) | exact HB.out)⟩
    · rw [if_neg c5] at H
      have c5b0 : decide (1 ≤ a1) = false := decide_eq_false c5
      clear c5
      obtain rfl := Option.some.inj H
      go_enter Try.func33, Try.ntmps33
      go_wp2_with (first | ((with_reducible refine gate_callee (f := 17) rfl ?_); refine goesL_ (some 6) rfl rfl Try.func17 (by kernel_rfl) rfl #[.slice A0 l0.length c0] rfl (by (try simp only [List.map_toArray, List.map_cons, List.map_nil]); first | done | rfl | (simp only [List.length_drop, List.length_take]; rfl)) ?_; (with_reducible refine (impl_TableOk.calls k _ _ l0 true _ ?side1 ?side2 A3.out).mono ?_); (case side1 => repeat (first | exact HR0.out | (with_reducible refine Kd.C_alloc ?_ _) | (with_reducible refine Kd.C_drewN ?_ _) | (with_reducible refine Kd.C_drew ?_))); (case side2 => exact HC0.out); rintro e w7 ⟨rfl, hb⟩; refine ⟨_, rfl, ?_⟩; have n0_ := Aside0.mk (below_step (by repeat (first | (with_reducible first | exact HB.out | apply below_alloc | apply pw_below_drewN | apply below_drew1) | exact HB.out)) hb); clear HB; have HB := n0_; clear n0_; (try clear hb); (try clear hb2); (try clear hk); (try clear hi)))
      go_ret
      exact ⟨by first | rfl | (simp [errW_none, errW_some] <;> rfl) | (simp [*, errW_none, errW_some] <;> rfl), by repeat (first | (with_reducible first | exact HB.out | apply below_alloc | apply pw_below_drewN | apply below_drew1) | exact HB.out)⟩
  · replace c4 := Bool.eq_false_iff.mpr c4
    subst c4
    have H1 : (some false) = some r := by rw [if_neg (show ¬ (false = true) by decide)] at H; exact H
    clear H
    have H := H1
    clear H1
    obtain rfl := Option.some.inj H
    go_enter Try.func33, Try.ntmps33
    go_wp2_with (first | ((with_reducible refine gate_callee (f := 17) rfl ?_); refine goesL_ (some 6) rfl rfl Try.func17 (by kernel_rfl) rfl #[.slice A0 l0.length c0] rfl (by (try simp only [List.map_toArray, List.map_cons, List.map_nil]); first | done | rfl | (simp only [List.length_drop, List.length_take]; rfl)) ?_; (with_reducible refine (impl_TableOk.calls k _ _ l0 false _ ?side1 ?side2 A3.out).mono ?_); (case side1 => repeat (first | exact HR0.out | (with_reducible refine Kd.C_alloc ?_ _) | (with_reducible refine Kd.C_drewN ?_ _) | (with_reducible refine Kd.C_drew ?_))); (case side2 => exact HC0.out); rintro e w8 ⟨rfl, hb⟩; refine ⟨_, rfl, ?_⟩; have n0_ := Aside0.mk (below_step (by repeat (first | (with_reducible first | exact HB.out | apply below_alloc | apply pw_below_drewN | apply below_drew1) | exact HB.out)) hb); clear HB; have HB := n0_; clear n0_; (try clear hb); (try clear hb2); (try clear hk); (try clear hi)))
    go_ret
    exact ⟨by first | rfl | (simp [errW_none, errW_some] <;> rfl) | (simp [*, errW_none, errW_some] <;> rfl), by repeat (first | (with_reducible first | exact HB.out | apply below_alloc | apply pw_below_drewN | apply below_drew1) | exact HB.out)⟩

/-! ### impl_Region_34: function 34 -/
def impl_Region_34.f (l0 : List S41) : Option (List S41) := if 0 < l0.length ∧ l0.length ≤ 3518437208883 then some l0 else none
def cellsR (x : S41) : List Value := [.int .i64 x.f0, .int .i64 x.f1, .int .i64 x.f2, .int .i64 x.f3, .int .i64 x.f4]
def flatR : List S41 → List Value
  | [] => []
  | x :: l => cellsR x ++ flatR l
theorem reps_flatR {R : S41 → List Value → Prop} (hR : ∀ x, R x (cellsR x)) : ∀ l, Reps R 5 l (flatR l)
  | [] => Reps.none _ _
  | x :: l => by
    have h1 : Reps R 5 [x] (cellsR x) := Reps.snoc (Reps.none R 5) (hR x) rfl
    exact Kd.reps_append h1 (reps_flatR hR l)
theorem one_flatR : ∀ l, ∀ u ∈ flatR l, u.oneCell' = true
  | [], u, hu => by simp [flatR] at hu
  | x :: l, u, hu => by
    rcases List.mem_append.1 hu with hu | hu
    · simp only [cellsR, List.mem_cons, List.not_mem_nil, or_false] at hu
      rcases hu with rfl | rfl | rfl | rfl | rfl <;> rfl
    · exact one_flatR l u hu
theorem flat_at {w : World} {A : Option Addr} {l : List S41} (h : Kd.C k41 w A l.length l) (h0 : 0 < l.length) :
    ∃ b off, A = some ⟨b, off, none⟩ ∧ ∀ j u, (flatR l)[j]? = some u → w.cell? ⟨b, off + j, none⟩ = some u := by
  obtain ⟨_, _, hc⟩ := h
  obtain ⟨ad, rfl, hc2⟩ := hc h0
  have one : ∀ i (hi : i < l.length) m u, (cellsR l[i])[m]? = some u → w.cell? (ad.add (i * 5 + m)) = some u := by
    intro i hi m u hu
    obtain ⟨c, hcl, hk, hcell⟩ := hc2 i l[i] (List.getElem?_eq_getElem hi)
    have e : c = cellsR l[i] := k41_open hk
    subst e
    exact hcell m u hu
  have hspot : ad.spot = none := by
    have := one 0 h0 0 _ rfl
    simpa [Addr.add] using World.cell?_spot this
  obtain ⟨b, off, spot⟩ := ad
  subst hspot
  refine ⟨b, off, rfl, fun j u hu => ?_⟩
  have hrep := reps_flatR (R := fun x c => c = cellsR x) (fun _ => rfl) l
  have hj : j < (flatR l).length := (List.getElem?_eq_some_iff.1 hu).1
  have hi : j / 5 < l.length := by
    have := hrep.1
    omega
  have hm : j / 5 * 5 + j % 5 = j := by omega
  have hcs := hrep.2 (j / 5) l[j / 5] (List.getElem?_eq_getElem hi)
  have hu2 : (cellsR l[j / 5])[j % 5]? = some u := by
    rw [← hcs, List.getElem?_take, if_pos (by omega), List.getElem?_drop, hm]
    exact hu
  have := one (j / 5) hi (j % 5) u hu2
  rw [hm, Go.WideShapes.add_plain] at this
  exact this
theorem impl_Region_34.calls (A0 : Option Addr) (c0 : Nat) (l0 : List S41) (r : List S41) (w : World) (hr0 : Kd.C k41 w A0 l0.length l0) (hc0 : l0.length ≤ c0) (h : impl_Region_34.f l0 = some r) :
    Calls Try.prog 34 #[.slice A0 l0.length c0] w fun e w' => ∃ v0_ : Value, e = .returned (v0_) ∧ Kd.R k41 41 w' w.heap.size (fun _ => True) v0_ r ∧ Below w.heap.size w w' := by
  unfold impl_Region_34.f at h
  by_cases hlen : 0 < l0.length ∧ l0.length ≤ 3518437208883
  · rw [if_pos hlen] at h
    obtain rfl := Option.some.inj h
    obtain ⟨b, off, rfl, hc⟩ := flat_at hr0 hlen.1
    obtain ⟨i0, hi, hi2⟩ := Option.map_eq_some_iff.1 info41
    simp only [Prod.mk.injEq] at hi2
    have hl : (flatR l0).length = l0.length * 5 := (reps_flatR (R := fun x c => c = cellsR x) (fun _ => rfl) l0).1
    refine (AnyE.slices_Clone Try.laysClone i0 _ 5 40 hi hi2.1 hi2.2.1 hi2.2.2 rfl (by omega) (fun w => by rfl) b off l0.length c0 (flatR l0) w hl (by have : maxLen = 9223372036854775807 := rfl; omega) (by omega) hc (one_flatR l0)).mono fun e w' he => ?_
    obtain ⟨v, he, ho, _, hb⟩ := he
    exact ⟨v, he, ⟨fun _ _ => trivial, flatR l0, ho, reps_flatR (fun x => k41_mkM _ _ _ x) l0⟩, hb⟩
  · rw [if_neg hlen] at h
    cases h

/-! ### impl_TableClose: function 19 -/
def impl_TableClose.f (k : Nat) (l0 : List (S41)) (a1 : Int) : Option ((List (S41)) × Bool) := (impl_hasRegion.f k l0 a1).bind fun t194 => (if t194 = true then (if 0 ≤ a1 then (if a1 < (l0.length : Int) then (if ((rd_T41 l0 a1).f0) = 2 then ((impl_Region_34.f l0).bind fun t196 => (if a1 < (t196.length : Int) then ((some (t196.set (a1 : Int).toNat (⟨3, (rd_T41 t196 a1).f1, (rd_T41 t196 a1).f2, (rd_T41 t196 a1).f3, (rd_T41 t196 a1).f4⟩ : S41) : List (S41))).bind fun y199 => (some ((y199.set (a1 : Int).toNat (⟨(rd_T41 y199 a1).f0, (-1), (rd_T41 y199 a1).f2, (rd_T41 y199 a1).f3, (rd_T41 y199 a1).f4⟩ : S41)), true))) else (none))) else (some (([] : List (S41)), false))) else (none)) else (none)) else (some (([] : List (S41)), false)))
theorem impl_TableClose.mono : ∀ a0 a1 k, LeO (impl_TableClose.f k a0 a1) (impl_TableClose.f (k + 1) a0 a1) := by
  intro a0 a1 k
  unfold impl_TableClose.f
  repeat' first
      | (with_reducible exact impl_hasRegion.mono _ _ _)
      | (with_reducible exact LeO.refl _)
      | (with_reducible exact LeO.none _)
      | (with_reducible refine LeO.ite ?_ ?_)
      | (with_reducible refine LeO.bind ?_ (fun _ => ?_))
      | exact impl_hasRegion.mono _ _ _
      | exact LeO.none _
      | refine LeO.ite ?_ ?_
      | refine LeO.bind ?_ (fun _ => ?_)
set_option maxHeartbeats 8000000 in
set_option maxRecDepth 100000 in
theorem impl_TableClose.calls (k : Nat) (A0 : Option Addr) (c0 : Nat) (l0 : List (S41)) (a1 : Int) (r1 : List (S41)) (r2 : Bool) (w : World) (hr0 : Kd.C k41 w A0 l0.length l0) (hc0 : l0.length ≤ c0) (h : impl_TableClose.f k l0 a1 = some (r1, r2)) :
    Calls Try.prog 19 #[.slice A0 l0.length c0, .int .i64 a1] w fun e w' => ∃ v0_ : Value, e = .returned (.tuple #[v0_, .bool r2]) ∧ Kd.R k41 41 w' w.heap.size (fun _ => True) v0_ r1 ∧ Below w.heap.size w w' := by
  have HR0 := Aside0.mk hr0
  have HC0 := Aside0.mk hc0
  clear hr0 hc0
  have HB := Aside0.mk (Below.refl w.heap.size w)
  have H : ((impl_hasRegion.f k l0 a1).bind fun t194 => (if t194 = true then (if 0 ≤ a1 then (if a1 < (l0.length : Int) then (if ((rd_T41 l0 a1).f0) = 2 then ((impl_Region_34.f l0).bind fun t196 => (if a1 < (t196.length : Int) then ((some (t196.set (a1 : Int).toNat (⟨3, (rd_T41 t196 a1).f1, (rd_T41 t196 a1).f2, (rd_T41 t196 a1).f3, (rd_T41 t196 a1).f4⟩ : S41) : List (S41))).bind fun y199 => (some ((y199.set (a1 : Int).toNat (⟨(rd_T41 y199 a1).f0, (-1), (rd_T41 y199 a1).f2, (rd_T41 y199 a1).f3, (rd_T41 y199 a1).f4⟩ : S41)), true))) else (none))) else (some (([] : List (S41)), false))) else (none)) else (none)) else (some (([] : List (S41)), false)))) = some (r1, r2) := h
  clear h
  replace H := Option.bind_eq_some_iff.mp H
  obtain ⟨t194, A30, H⟩ := H
  replace H : (if t194 = true then (if 0 ≤ a1 then (if a1 < (l0.length : Int) then (if ((rd_T41 l0 a1).f0) = 2 then ((impl_Region_34.f l0).bind fun t196 => (if a1 < (t196.length : Int) then ((some (t196.set (a1 : Int).toNat (⟨3, (rd_T41 t196 a1).f1, (rd_T41 t196 a1).f2, (rd_T41 t196 a1).f3, (rd_T41 t196 a1).f4⟩ : S41) : List (S41))).bind fun y199 => (some ((y199.set (a1 : Int).toNat (⟨(rd_T41 y199 a1).f0, (-1), (rd_T41 y199 a1).f2, (rd_T41 y199 a1).f3, (rd_T41 y199 a1).f4⟩ : S41)), true))) else (none))) else (some (([] : List (S41)), false))) else (none)) else (none)) else (some (([] : List (S41)), false))) = some (r1, r2) := H
  have A3 := Aside0.mk A30
  clear A30
  by_cases c4 : t194 = true
  · subst c4
    have H1 : (if 0 ≤ a1 then (if a1 < (l0.length : Int) then (if ((rd_T41 l0 a1).f0) = 2 then ((impl_Region_34.f l0).bind fun t196 => (if a1 < (t196.length : Int) then ((some (t196.set (a1 : Int).toNat (⟨3, (rd_T41 t196 a1).f1, (rd_T41 t196 a1).f2, (rd_T41 t196 a1).f3, (rd_T41 t196 a1).f4⟩ : S41) : List (S41))).bind fun y199 => (some ((y199.set (a1 : Int).toNat (⟨(rd_T41 y199 a1).f0, (-1), (rd_T41 y199 a1).f2, (rd_T41 y199 a1).f3, (rd_T41 y199 a1).f4⟩ : S41)), true))) else (none))) else (some (([] : List (S41)), false))) else (none)) else (none)) = some (r1, r2) := by rw [if_pos rfl] at H; exact H
    clear H
    have H := H1
    clear H1
    by_cases c5 : 0 ≤ a1
    · rw [if_pos c5] at H
      have c5b0 : decide (0 ≤ a1) = true := decide_eq_true c5
      clear c5
      by_cases c6 : a1 < (l0.length : Int)
      · rw [if_pos c6] at H
        have c6b0 : decide (a1 < (l0.length : Int)) = true := decide_eq_true c6
        clear c6
        by_cases c7 : ((rd_T41 l0 a1).f0) = 2
        · rw [if_pos c7] at H
          have c7b0 : (((rd_T41 l0 a1).f0) == 2) = true := beq_iff_eq.mpr c7
          have c7b1 : (((rd_T41 l0 a1).f0) != 2) = false := bne_eq_false_iff_eq.mpr c7
          clear c7
          replace H := Option.bind_eq_some_iff.mp H
          obtain ⟨t196, A80, H⟩ := H
          replace H : (if a1 < (t196.length : Int) then ((some (t196.set (a1 : Int).toNat (⟨3, (rd_T41 t196 a1).f1, (rd_T41 t196 a1).f2, (rd_T41 t196 a1).f3, (rd_T41 t196 a1).f4⟩ : S41) : List (S41))).bind fun y199 => (some ((y199.set (a1 : Int).toNat (⟨(rd_T41 y199 a1).f0, (-1), (rd_T41 y199 a1).f2, (rd_T41 y199 a1).f3, (rd_T41 y199 a1).f4⟩ : S41)), true))) else (none)) = some (r1, r2) := H
          have A8 := Aside0.mk A80
          clear A80
          by_cases c9 : a1 < (t196.length : Int)
          · rw [if_pos c9] at H
            have c9b0 : decide (a1 < (t196.length : Int)) = true := decide_eq_true c9
            clear c9
            obtain ⟨y199, hy199⟩ : ∃ y_ : List (S41), y_ = (t196.set (a1 : Int).toNat (⟨3, (rd_T41 t196 a1).f1, (rd_T41 t196 a1).f2, (rd_T41 t196 a1).f3, (rd_T41 t196 a1).f4⟩ : S41)) := ⟨_, rfl⟩
            replace H : (some ((y199.set (a1 : Int).toNat (⟨(rd_T41 y199 a1).f0, (-1), (rd_T41 y199 a1).f2, (rd_T41 y199 a1).f3, (rd_T41 y199 a1).f4⟩ : S41)), true)) = some (r1, r2) := by first | (rw [hy199]; with_reducible exact H) | (have H2_ := (Option.bind_some _ _).symm.trans H; rw [hy199]; with_reducible exact H2_) | (have H2_ := (Option.bind_some _ _).symm.trans H; with_reducible exact H2_) | with_reducible exact H | (rw [hy199]; exact H) | exact H
            have Ny199 := Aside0.mk hy199
            clear hy199
            obtain ⟨y200, hy200⟩ : ∃ y_ : List (S41), y_ = (y199.set (a1 : Int).toNat (⟨(rd_T41 y199 a1).f0, (-1), (rd_T41 y199 a1).f2, (rd_T41 y199 a1).f3, (rd_T41 y199 a1).f4⟩ : S41)) := ⟨_, rfl⟩
            replace H : (some (y200, true)) = some (r1, r2) := by first | (rw [hy200]; with_reducible exact H) | (have H2_ := (Option.bind_some _ _).symm.trans H; rw [hy200]; with_reducible exact H2_) | (have H2_ := (Option.bind_some _ _).symm.trans H; with_reducible exact H2_) | with_reducible exact H | (rw [hy200]; exact H) | exact H
            have Ny200 := Aside0.mk hy200
            clear hy200
            simp only [Option.some.injEq, Prod.mk.injEq] at H
            obtain ⟨rfl, rfl⟩ := H
            go_enter Try.func19, Try.ntmps19
            go_wp2_with (first | ((with_reducible refine gate_callee (f := 33) rfl ?_); refine goesL_ (some 9) rfl rfl Try.func33 (by kernel_rfl) rfl #[.slice A0 l0.length c0, .int .i64 a1] rfl (by (try simp only [List.map_toArray, List.map_cons, List.map_nil]); first | done | rfl | (simp only [List.length_drop, List.length_take]; rfl)) ?_; (with_reducible refine (impl_hasRegion.calls k _ _ l0 a1 true _ ?side1 ?side2 A3.out).mono ?_); (case side1 => repeat (first | exact HR0.out | (with_reducible refine Kd.C_alloc ?_ _) | (with_reducible refine Kd.C_drewN ?_ _) | (with_reducible refine Kd.C_drew ?_))); (case side2 => exact HC0.out); rintro e w12 ⟨rfl, hb⟩; refine ⟨_, rfl, ?_⟩; have n0_ := Aside0.mk (below_step (by repeat (first | (with_reducible first | exact HB.out | apply below_alloc | apply pw_below_drewN | apply below_drew1) | exact HB.out)) hb); clear HB; have HB := n0_; clear n0_; (try clear hb); (try clear hb2); (try clear hk); (try clear hi); have p195 : 0 ≤ (a1 : Int) := of_decide_eq_true (by first | (with_reducible assumption) | assumption); have q195 : a1 < (l0.length : Int) := of_decide_eq_true (by first | (with_reducible assumption) | assumption); obtain ⟨ad195, e195, hx195_0, hx195_1, hx195_2, hx195_3, hx195_4⟩ := at_T41 HR0.out a1 p195 q195; cases e195; replace hx195_0 := (HB.out.cell (World.block_lt_of_cell? w _ hx195_0)).trans hx195_0; replace hx195_1 := (HB.out.cell (World.block_lt_of_cell? w _ hx195_1)).trans hx195_1; replace hx195_2 := (HB.out.cell (World.block_lt_of_cell? w _ hx195_2)).trans hx195_2; replace hx195_3 := (HB.out.cell (World.block_lt_of_cell? w _ hx195_3)).trans hx195_3; replace hx195_4 := (HB.out.cell (World.block_lt_of_cell? w _ hx195_4)).trans hx195_4; replace p195 := eq_true p195; replace q195 := eq_true q195) | ((with_reducible refine gate_callee (f := 34) rfl ?_); refine goesL_ (some 20) rfl rfl Try.func34 (by kernel_rfl) rfl #[.slice (some ad195) l0.length c0] rfl (by (try simp only [List.map_toArray, List.map_cons, List.map_nil]); first | done | rfl | (simp only [List.length_drop, List.length_take]; rfl)) ?_; (with_reducible refine (impl_Region_34.calls _ _ l0 t196 _ ?side1 ?side2 A8.out).mono ?_); (case side1 => repeat (first | exact (Kd.C_below HR0.out HB.out) | (with_reducible refine Kd.C_alloc ?_ _) | (with_reducible refine Kd.C_drewN ?_ _) | (with_reducible refine Kd.C_drew ?_))); (case side2 => exact HC0.out); rintro e w13 ⟨v197, rfl, ho0, hb⟩; refine ⟨_, rfl, ?_⟩; have n0_ := Aside0.mk (Kd.R_lower ho0 (below_size (by repeat (first | (with_reducible first | exact HB.out | apply below_alloc | apply pw_below_drewN | apply below_drew1) | exact HB.out)))); have n1_ := Aside0.mk (below_step (by repeat (first | (with_reducible first | exact HB.out | apply below_alloc | apply pw_below_drewN | apply below_drew1) | exact HB.out)) hb); clear HB; have HO198 := n0_; have HB := n1_; clear n0_ n1_; (try clear hb); (try clear hb2); (try clear hk); (try clear hi); (try clear ho0); have p10 : 0 ≤ (a1 : Int) := of_decide_eq_true (by first | (with_reducible assumption) | assumption); have q10 : (a1 : Int) < ((t196.length : Int) : Int) := of_decide_eq_true (by first | (with_reducible assumption) | assumption); obtain ⟨go10, co10, eo10, gb10, gl10, cl10, HG10⟩ := Kd.R_form HO198.out (by omega); (first | cases eo10 | (injection eo10 with ea_ en_ ec_; (first | subst ea_ | (injection ea_ with ea_; subst ea_)); subst ec_; clear en_)); have GB10 := Aside0.mk gb10; have GG10 := Aside0.mk HG10; clear gb10 gl10 HG10; obtain ⟨ce10, hcl10, hM10, hcc10, hfr10⟩ := Kd.R_elem HO198.out z41 (a1 : Int) p10 q10; obtain rfl := k41_openM hM10; have hx10_0 : w13.cell? ⟨go10, (a1 : Int).toNat * 5, none⟩ = some (.int .i64 ((rd_T41 t196 a1).f0)) := hcc10 0 _ rfl; have hx10_1 : w13.cell? ⟨go10, (a1 : Int).toNat * 5 + 1, none⟩ = some (.int .i64 ((rd_T41 t196 a1).f1)) := hcc10 1 _ rfl; have hx10_2 : w13.cell? ⟨go10, (a1 : Int).toNat * 5 + 2, none⟩ = some (.int .i64 ((rd_T41 t196 a1).f2)) := hcc10 2 _ rfl; have hx10_3 : w13.cell? ⟨go10, (a1 : Int).toNat * 5 + 3, none⟩ = some (.int .i64 ((rd_T41 t196 a1).f3)) := hcc10 3 _ rfl; have hx10_4 : w13.cell? ⟨go10, (a1 : Int).toNat * 5 + 4, none⟩ = some (.int .i64 ((rd_T41 t196 a1).f4)) := hcc10 4 _ rfl; have hf10_0 : w13.frozen? ⟨go10, (a1 : Int).toNat * 5, none⟩ = false := hfr10 0; have hf10_1 : w13.frozen? ⟨go10, (a1 : Int).toNat * 5 + 1, none⟩ = false := hfr10 1; have hf10_2 : w13.frozen? ⟨go10, (a1 : Int).toNat * 5 + 2, none⟩ = false := hfr10 2; have hf10_3 : w13.frozen? ⟨go10, (a1 : Int).toNat * 5 + 3, none⟩ = false := hfr10 3; have hf10_4 : w13.frozen? ⟨go10, (a1 : Int).toNat * 5 + 4, none⟩ = false := hfr10 4; clear hcl10 hcc10 hfr10 hM10; replace p10 := eq_true p10; replace q10 := eq_true q10; have HX14 := Aside0.mk (show Kd.R k41 41 w13 w.heap.size (fun _ => True) (.slice (some ⟨go10, 0, none⟩) t196.length co10) t196 from (by (with_reducible repeat (first | apply Kd.R_alloc | apply Kd.R_drewN | apply Kd.R_drew)); exact HO198.out)); obtain ⟨ce14, hcl14, hM14, hcc14, hfr14⟩ := Kd.R_elem HX14.out z41 (a1 : Int) (of_decide_eq_true (by first | (with_reducible assumption) | assumption)) (by have h_ : (a1 : Int) < ((t196.length : Int) : Int) := of_decide_eq_true (by first | (with_reducible assumption) | assumption); first | exact h_ | (have e_ := (Kd.R_reads' HO198.out).1; omega) | simpa using h_); obtain rfl := k41_openM hM14; have HP14 := Kd.R_seg HX14.out (a1 : Int) (of_decide_eq_true (by first | (with_reducible assumption) | assumption)) (by have h_ : (a1 : Int) < ((t196.length : Int) : Int) := of_decide_eq_true (by first | (with_reducible assumption) | assumption); first | exact h_ | (have e_ := (Kd.R_reads' HO198.out).1; omega) | simpa using h_) (seg := [.int .i64 3]) (j := 0) hcl14 hcc14 (show 1 ≤ 5 from by decide) (x' := (⟨3, (rd_T41 t196 a1).f1, (rd_T41 t196 a1).f2, (rd_T41 t196 a1).f3, (rd_T41 t196 a1).f4⟩ : S41)) (k41_mkM _ _ _ (⟨3, (rd_T41 t196 a1).f1, (rd_T41 t196 a1).f2, (rd_T41 t196 a1).f3, (rd_T41 t196 a1).f4⟩ : S41) ) (fun _ hk => hk); have hx14_0 := hcc14 0 _ rfl; (try simp only [show (k41).sz = 5 from rfl, Nat.mul_one, Nat.add_zero] at hx14_0); have hf14_0 := hfr14 0; (try simp only [show (k41).sz = 5 from rfl, Nat.mul_one, Nat.add_zero] at hf14_0); clear hcl14 hcc14 hfr14 hM14) | ((with_reducible refine gate_store (t := 3) (p := 26) rfl ?_); refine store_event (t := 3) (p := 26) (v := ?vo_w15) (w1 := (w13.setCell ⟨go10, (a1 : Int).toNat * 5, none⟩ (.int .i64 3))) ?hg ?ho ?hn ?hr ?_; (case ho => rfl); (case hg => rfl); (case hn => rfl); (case hr => first | (go_simp; done) | (go_simp; rfl)); intro w15 hw; have hg : w13.grownBy w15 (some go10) := (by rw [hw]; exact HP14.2); have hp_ : Kd.R k41 41 w15 w.heap.size (fun _ => True) (.slice (some ⟨go10, 0, none⟩) t196.length co10) y199 := (by rw [hw, Ny199.out]; exact HP14.1); clear HP14; have n0_ := Aside0.mk (hp_); have n1_ := Aside0.mk ((by rw [hw]; exact below_set (HB.out) GB10.out : Below w.heap.size w w15)); clear HO198; clear HB; have HO198 := n0_; have HB := n1_; clear n0_ n1_; clear hg hw hp_; have p11 : 0 ≤ (a1 : Int) := of_decide_eq_true (by first | (with_reducible assumption) | assumption); have q11 : (a1 : Int) < ((t196.length : Int) : Int) := of_decide_eq_true (by first | (with_reducible assumption) | assumption); obtain ⟨ce11, hcl11, hM11, hcc11, hfr11⟩ := Kd.R_elem HO198.out z41 (a1 : Int) p11 q11; obtain rfl := k41_openM hM11; have hx11_0 : w15.cell? ⟨go10, (a1 : Int).toNat * 5, none⟩ = some (.int .i64 ((rd_T41 y199 a1).f0)) := hcc11 0 _ rfl; have hx11_1 : w15.cell? ⟨go10, (a1 : Int).toNat * 5 + 1, none⟩ = some (.int .i64 ((rd_T41 y199 a1).f1)) := hcc11 1 _ rfl; have hx11_2 : w15.cell? ⟨go10, (a1 : Int).toNat * 5 + 2, none⟩ = some (.int .i64 ((rd_T41 y199 a1).f2)) := hcc11 2 _ rfl; have hx11_3 : w15.cell? ⟨go10, (a1 : Int).toNat * 5 + 3, none⟩ = some (.int .i64 ((rd_T41 y199 a1).f3)) := hcc11 3 _ rfl; have hx11_4 : w15.cell? ⟨go10, (a1 : Int).toNat * 5 + 4, none⟩ = some (.int .i64 ((rd_T41 y199 a1).f4)) := hcc11 4 _ rfl; have hf11_0 : w15.frozen? ⟨go10, (a1 : Int).toNat * 5, none⟩ = false := hfr11 0; have hf11_1 : w15.frozen? ⟨go10, (a1 : Int).toNat * 5 + 1, none⟩ = false := hfr11 1; have hf11_2 : w15.frozen? ⟨go10, (a1 : Int).toNat * 5 + 2, none⟩ = false := hfr11 2; have hf11_3 : w15.frozen? ⟨go10, (a1 : Int).toNat * 5 + 3, none⟩ = false := hfr11 3; have hf11_4 : w15.frozen? ⟨go10, (a1 : Int).toNat * 5 + 4, none⟩ = false := hfr11 4; clear hcl11 hcc11 hfr11 hM11; replace p11 := eq_true p11; replace q11 := eq_true q11; have HX16 := Aside0.mk (show Kd.R k41 41 w15 w.heap.size (fun _ => True) (.slice (some ⟨go10, 0, none⟩) t196.length co10) y199 from (by (with_reducible repeat (first | apply Kd.R_alloc | apply Kd.R_drewN | apply Kd.R_drew)); exact HO198.out)); obtain ⟨ce16, hcl16, hM16, hcc16, hfr16⟩ := Kd.R_elem HX16.out z41 (a1 : Int) (of_decide_eq_true (by first | (with_reducible assumption) | assumption)) (by have h_ : (a1 : Int) < ((t196.length : Int) : Int) := of_decide_eq_true (by first | (with_reducible assumption) | assumption); first | exact h_ | (have e_ := (Kd.R_reads' HO198.out).1; omega) | simpa using h_); obtain rfl := k41_openM hM16; have HP16 := Kd.R_seg HX16.out (a1 : Int) (of_decide_eq_true (by first | (with_reducible assumption) | assumption)) (by have h_ : (a1 : Int) < ((t196.length : Int) : Int) := of_decide_eq_true (by first | (with_reducible assumption) | assumption); first | exact h_ | (have e_ := (Kd.R_reads' HO198.out).1; omega) | simpa using h_) (seg := [.int .i64 (-1)]) (j := 1) hcl16 hcc16 (show 2 ≤ 5 from by decide) (x' := (⟨(rd_T41 y199 a1).f0, (-1), (rd_T41 y199 a1).f2, (rd_T41 y199 a1).f3, (rd_T41 y199 a1).f4⟩ : S41)) (k41_mkM _ _ _ (⟨(rd_T41 y199 a1).f0, (-1), (rd_T41 y199 a1).f2, (rd_T41 y199 a1).f3, (rd_T41 y199 a1).f4⟩ : S41) ) (fun _ hk => hk); have hx16_1 := hcc16 1 _ rfl; (try simp only [show (k41).sz = 5 from rfl, Nat.mul_one, Nat.add_zero] at hx16_1); have hf16_1 := hfr16 1; (try simp only [show (k41).sz = 5 from rfl, Nat.mul_one, Nat.add_zero] at hf16_1); clear hcl16 hcc16 hfr16 hM16) | ((with_reducible refine gate_store (t := 3) (p := 28) rfl ?_); refine store_event (t := 3) (p := 28) (v := ?vo_w17) (w1 := (w15.setCell ⟨go10, (a1 : Int).toNat * 5 + 1, none⟩ (.int .i64 (-1)))) ?hg ?ho ?hn ?hr ?_; (case ho => rfl); (case hg => rfl); (case hn => rfl); (case hr => first | (go_simp; done) | (go_simp; rfl)); intro w17 hw; have hg : w15.grownBy w17 (some go10) := (by rw [hw]; exact HP16.2); have hp_ : Kd.R k41 41 w17 w.heap.size (fun _ => True) (.slice (some ⟨go10, 0, none⟩) t196.length co10) y200 := (by rw [hw, Ny200.out]; exact HP16.1); clear HP16; have n0_ := Aside0.mk (hp_); have n1_ := Aside0.mk ((by rw [hw]; exact below_set (HB.out) GB10.out : Below w.heap.size w w17)); clear HO198; clear HB; have HO198 := n0_; have HB := n1_; clear n0_ n1_; clear hg hw hp_))
            go_ret2
            exact ⟨_, by first | rfl | (simp [errW_none, errW_some] <;> rfl) | (simp [*, errW_none, errW_some] <;> rfl), by (with_reducible repeat (first | apply Kd.R_alloc | apply Kd.R_drewN | apply Kd.R_drew)); exact HO198.out, by repeat (first | (with_reducible first | exact HB.out | apply below_alloc | apply pw_below_drewN | apply below_drew1) | exact HB.out)⟩
          · rw [if_neg c9] at H
            exact absurd H (by simp)
        · rw [if_neg c7] at H
          have c7b0 : (((rd_T41 l0 a1).f0) == 2) = false := beq_eq_false_iff_ne.mpr c7
          have c7b1 : (((rd_T41 l0 a1).f0) != 2) = true := bne_iff_ne.mpr c7
          simp only [Option.some.injEq, Prod.mk.injEq] at H
          obtain ⟨rfl, rfl⟩ := H
          go_enter Try.func19, Try.ntmps19
          go_wp2_with (first | ((with_reducible refine gate_callee (f := 33) rfl ?_); refine goesL_ (some 9) rfl rfl Try.func33 (by kernel_rfl) rfl #[.slice A0 l0.length c0, .int .i64 a1] rfl (by (try simp only [List.map_toArray, List.map_cons, List.map_nil]); first | done | rfl | (simp only [List.length_drop, List.length_take]; rfl)) ?_; (with_reducible refine (impl_hasRegion.calls k _ _ l0 a1 true _ ?side1 ?side2 A3.out).mono ?_); (case side1 => repeat (first | exact HR0.out | (with_reducible refine Kd.C_alloc ?_ _) | (with_reducible refine Kd.C_drewN ?_ _) | (with_reducible refine Kd.C_drew ?_))); (case side2 => exact HC0.out); rintro e w18 ⟨rfl, hb⟩; refine ⟨_, rfl, ?_⟩; have n0_ := Aside0.mk (below_step (by repeat (first | (with_reducible first | exact HB.out | apply below_alloc | apply pw_below_drewN | apply below_drew1) | exact HB.out)) hb); clear HB; have HB := n0_; clear n0_; (try clear hb); (try clear hb2); (try clear hk); (try clear hi); have p195 : 0 ≤ (a1 : Int) := of_decide_eq_true (by first | (with_reducible assumption) | assumption); have q195 : a1 < (l0.length : Int) := of_decide_eq_true (by first | (with_reducible assumption) | assumption); obtain ⟨ad195, e195, hx195_0, hx195_1, hx195_2, hx195_3, hx195_4⟩ := at_T41 HR0.out a1 p195 q195; cases e195; replace hx195_0 := (HB.out.cell (World.block_lt_of_cell? w _ hx195_0)).trans hx195_0; replace hx195_1 := (HB.out.cell (World.block_lt_of_cell? w _ hx195_1)).trans hx195_1; replace hx195_2 := (HB.out.cell (World.block_lt_of_cell? w _ hx195_2)).trans hx195_2; replace hx195_3 := (HB.out.cell (World.block_lt_of_cell? w _ hx195_3)).trans hx195_3; replace hx195_4 := (HB.out.cell (World.block_lt_of_cell? w _ hx195_4)).trans hx195_4; replace p195 := eq_true p195; replace q195 := eq_true q195))
          go_ret2
          exact ⟨_, by first | rfl | (simp [errW_none, errW_some] <;> rfl) | (simp [*, errW_none, errW_some] <;> rfl), by first | exact Kd.R_nil _ _ _ _ _ | exact Kd.N_nil _ _ _ _ _ | exact Kd.V_nil _ _ _ _ _ | exact Kd.Q_nil _ _ _ _ _ | exact Kd.S_nil _ _ _ _ _, by repeat (first | (with_reducible first | exact HB.out | apply below_alloc | apply pw_below_drewN | apply below_drew1) | exact HB.out)⟩
      · rw [if_neg c6] at H
        exact absurd H (by simp)
    · rw [if_neg c5] at H
      exact absurd H (by simp)
  · replace c4 := Bool.eq_false_iff.mpr c4
    subst c4
    have H1 : (some (([] : List (S41)), false)) = some (r1, r2) := by rw [if_neg (show ¬ (false = true) by decide)] at H; exact H
    clear H
    have H := H1
    clear H1
    simp only [Option.some.injEq, Prod.mk.injEq] at H
    obtain ⟨rfl, rfl⟩ := H
    go_enter Try.func19, Try.ntmps19
    go_wp2_with (first | ((with_reducible refine gate_callee (f := 33) rfl ?_); refine goesL_ (some 9) rfl rfl Try.func33 (by kernel_rfl) rfl #[.slice A0 l0.length c0, .int .i64 a1] rfl (by (try simp only [List.map_toArray, List.map_cons, List.map_nil]); first | done | rfl | (simp only [List.length_drop, List.length_take]; rfl)) ?_; (with_reducible refine (impl_hasRegion.calls k _ _ l0 a1 false _ ?side1 ?side2 A3.out).mono ?_); (case side1 => repeat (first | exact HR0.out | (with_reducible refine Kd.C_alloc ?_ _) | (with_reducible refine Kd.C_drewN ?_ _) | (with_reducible refine Kd.C_drew ?_))); (case side2 => exact HC0.out); rintro e w19 ⟨rfl, hb⟩; refine ⟨_, rfl, ?_⟩; have n0_ := Aside0.mk (below_step (by repeat (first | (with_reducible first | exact HB.out | apply below_alloc | apply pw_below_drewN | apply below_drew1) | exact HB.out)) hb); clear HB; have HB := n0_; clear n0_; (try clear hb); (try clear hb2); (try clear hk); (try clear hi)))
    go_ret2
    exact ⟨_, by first | rfl | (simp [errW_none, errW_some] <;> rfl) | (simp [*, errW_none, errW_some] <;> rfl), by first | exact Kd.R_nil _ _ _ _ _ | exact Kd.N_nil _ _ _ _ _ | exact Kd.V_nil _ _ _ _ _ | exact Kd.Q_nil _ _ _ _ _ | exact Kd.S_nil _ _ _ _ _, by repeat (first | (with_reducible first | exact HB.out | apply below_alloc | apply pw_below_drewN | apply below_drew1) | exact HB.out)⟩

/-! ### impl_free: function 28 -/
def impl_free.f (a0 : Int) : Option (Int × Int × Int × Int × Int) := (impl_RegionBase.f a0).bind fun t202 => (some (1, (-1), t202, t202, 0))
set_option maxHeartbeats 8000000 in
set_option maxRecDepth 100000 in
theorem impl_free.calls (a0 : Int) (r1 : Int) (r2 : Int) (r3 : Int) (r4 : Int) (r5 : Int) (w : World) (h : impl_free.f a0 = some (r1, r2, r3, r4, r5)) :
    Calls Try.prog 28 #[.int .i64 a0] w fun e w' => e = .returned (.agg #[.int .i64 r1, .int .i64 r2, .int .i64 r3, .int .i64 r4, .int .i64 r5]) ∧ Below w.heap.size w w' := by
  have hu41 := Try.underlying41
  have HB := Aside0.mk (Below.refl w.heap.size w)
  have H : ((impl_RegionBase.f a0).bind fun t202 => (some (1, (-1), t202, t202, 0))) = some (r1, r2, r3, r4, r5) := h
  clear h
  replace H := Option.bind_eq_some_iff.mp H
  obtain ⟨t202, A20, H⟩ := H
  replace H : (some (1, (-1), t202, t202, 0)) = some (r1, r2, r3, r4, r5) := H
  have A2 := Aside0.mk A20
  clear A20
  simp only [Option.some.injEq, Prod.mk.injEq] at H
  obtain ⟨rfl, rfl, rfl, rfl, rfl⟩ := H
  go_enter Try.func28, Try.ntmps28
  go_wp2_with (first | ((with_reducible refine gate_dst (N := 2) rfl ?_); refine box_event ?hg (N := 2) ?hd (cs := #[.int .i64 0, .int .i64 0, .int .i64 0, .int .i64 0, .int .i64 0]) (t := 41) ?hr ?_; (case hd => rfl); (case hg => rfl); (case hr => first | (go_simp; done) | (go_simp; rfl)); intro gb201 hg w3 hbox hb; have n0_ := Aside0.mk (below_step (by repeat (first | (with_reducible first | exact HB.out | apply below_alloc | apply pw_below_drewN | apply below_drew1) | exact HB.out)) hb); have n1_ := Aside0.mk (hbox); have n2_ := Aside0.mk ((by rw [hg]; exact (below_size (by repeat (first | (with_reducible first | exact HB.out | apply below_alloc | apply pw_below_drewN | apply below_drew1) | exact HB.out))) : w.heap.size ≤ gb201)); have n3_ := Aside0.mk ((by rw [hg]; exact (below_size (by repeat (first | (with_reducible first | exact HB.out | apply below_alloc | apply pw_below_drewN | apply below_drew1) | exact HB.out))) : w.heap.size ≤ gb201)); clear HB; have HB := n0_; have BK201 := n1_; have GW201 := n2_; have GE201 := n3_; clear n0_ n1_ n2_ n3_; clear hb hbox hg) | ((with_reducible refine gate_callee (f := 39) rfl ?_); refine goesL_ (some 5) rfl rfl Try.func39 (by kernel_rfl) rfl #[.int .i64 a0] rfl (by (try simp only [List.map_toArray, List.map_cons, List.map_nil]); first | done | rfl | (simp only [List.length_drop, List.length_take]; rfl)) ?_; (with_reducible refine (impl_RegionBase.calls a0 t202 _ A2.out).mono ?_); rintro e w' ⟨rfl, ⟨nd, rfl⟩⟩; refine ⟨_, rfl, ?_⟩; (try (rw [drewN_self w3]; generalize hq_ : World.drewN w3 _ = w3; have n0_ : Aside0 (w3.heap[gb201]? = some (.cells #[.int .i64 0, .int .i64 0, .int .i64 0, .int .i64 0, .int .i64 0] 41 (0, 0))) := ⟨by rw [← hq_]; exact (by (with_reducible repeat (first | refine blk_drewN ?_ _ | refine blk_drew ?_ | refine blk_alloc ?_ _)); exact BK201.out)⟩; have n1_ : Aside0 (Below w.heap.size w w3) := ⟨by rw [← hq_]; exact (by repeat (first | (with_reducible first | exact HB.out | apply below_alloc | apply pw_below_drewN | apply below_drew1 | refine below_set ?_ GE201.out) | exact HB.out))⟩; clear BK201 HB hq_; have BK201 := n0_; have HB := n1_; clear n0_ n1_)); have hcz4_0 : w3.cell? ⟨gb201, 0, none⟩ = some (.int .i64 0) := (blk_cell BK201.out 0).trans rfl; have hcz4_1 : w3.cell? ⟨gb201, 1, none⟩ = some (.int .i64 0) := (blk_cell BK201.out 1).trans rfl; have hcz4_2 : w3.cell? ⟨gb201, 2, none⟩ = some (.int .i64 0) := (blk_cell BK201.out 2).trans rfl; have hcz4_3 : w3.cell? ⟨gb201, 3, none⟩ = some (.int .i64 0) := (blk_cell BK201.out 3).trans rfl; have hcz4_4 : w3.cell? ⟨gb201, 4, none⟩ = some (.int .i64 0) := (blk_cell BK201.out 4).trans rfl; have hfz4_0 := blk_frozen BK201.out 0; have hfz4_1 := blk_frozen BK201.out 1; have hfz4_2 := blk_frozen BK201.out 2; have hfz4_3 := blk_frozen BK201.out 3; have hfz4_4 := blk_frozen BK201.out 4))
  refine bodyPost_ret (results_cell_row rfl _ _ gb201 41 #[.int .i64 1, .int .i64 (-1), .int .i64 t202, .int .i64 t202, .int .i64 0] (0, 0) _ rfl (by (with_reducible repeat (first | refine blk_drewN ?_ _ | refine blk_drew ?_ | refine blk_alloc ?_ _)); refine blk_put (cs := #[.int .i64 1, .int .i64 (-1), .int .i64 t202, .int .i64 t202, .int .i64 0]) ?_ 4 _ rfl; (with_reducible repeat (first | refine blk_drewN ?_ _ | refine blk_drew ?_ | refine blk_alloc ?_ _)); refine blk_put (cs := #[.int .i64 1, .int .i64 (-1), .int .i64 t202, .int .i64 0, .int .i64 0]) ?_ 3 _ rfl; (with_reducible repeat (first | refine blk_drewN ?_ _ | refine blk_drew ?_ | refine blk_alloc ?_ _)); refine blk_put (cs := #[.int .i64 1, .int .i64 (-1), .int .i64 0, .int .i64 0, .int .i64 0]) ?_ 2 _ rfl; (with_reducible repeat (first | refine blk_drewN ?_ _ | refine blk_drew ?_ | refine blk_alloc ?_ _)); refine blk_put (cs := #[.int .i64 1, .int .i64 0, .int .i64 0, .int .i64 0, .int .i64 0]) ?_ 1 _ rfl; (with_reducible repeat (first | refine blk_drewN ?_ _ | refine blk_drew ?_ | refine blk_alloc ?_ _)); refine blk_put (cs := #[.int .i64 0, .int .i64 0, .int .i64 0, .int .i64 0, .int .i64 0]) ?_ 0 _ rfl; (with_reducible repeat (first | refine blk_drewN ?_ _ | refine blk_drew ?_ | refine blk_alloc ?_ _)); exact BK201.out) Try.underlying41 rfl (by kernel_rfl)) rfl ?_
  exact ⟨by first | rfl | (simp [errW_none, errW_some] <;> rfl) | (simp [*, errW_none, errW_some] <;> rfl), by repeat (first | (with_reducible first | exact HB.out | apply below_alloc | apply pw_below_drewN | apply below_drew1 | refine below_set ?_ GE201.out) | exact HB.out)⟩

/-! ### impl_Region_37: function 37 -/
instance : Inhabited S41 := ⟨z41⟩
def idxB (p : S41 → Bool) (l : List S41) : Int := Lib.idxBy (fun _ y => p y) l default
def impl_Region_37.f (l0 : List S41) : Option Int := if 0 < l0.length then some (idxB (fun x => x.f0 == 1) l0) else none
theorem rows_at {w : World} {A : Option Addr} {l : List S41} (h : Kd.C k41 w A l.length l) (h0 : 0 < l.length) :
    ∃ b off, A = some ⟨b, off, none⟩ ∧ b < w.heap.size ∧ ∀ j, j < l.length → ∀ i v, (cellsR l[j]!)[i]? = some v → w.cell? ⟨b, off + j * 5 + i, none⟩ = some v := by
  obtain ⟨_, _, hc⟩ := h
  obtain ⟨ad, rfl, hc2⟩ := hc h0
  have one : ∀ i (hi : i < l.length) m u, (cellsR l[i])[m]? = some u → w.cell? (ad.add (i * 5 + m)) = some u := by
    intro i hi m u hu
    obtain ⟨c, hcl, hk, hcell⟩ := hc2 i l[i] (List.getElem?_eq_getElem hi)
    have e : c = cellsR l[i] := k41_open hk
    subst e
    exact hcell m u hu
  have first := one 0 h0 0 _ rfl
  have hspot : ad.spot = none := by
    simpa [Addr.add] using World.cell?_spot first
  obtain ⟨b, off, spot⟩ := ad
  subst hspot
  have hlt : b < w.heap.size := World.block_lt_of_cell? w _ first
  refine ⟨b, off, rfl, hlt, fun j hj i v hv => ?_⟩
  rw [getElem!_pos l j hj] at hv
  have := one j hj i v hv
  rw [Go.WideShapes.add_plain] at this
  rw [Nat.add_assoc]
  exact this
theorem pred38 (w : World) : PredBelow Try.prog 38 #[] (fun x : S41 => .agg (cellsR x).toArray) (fun x => x.f0 == 1) w := fun W x hb => by
  show Calls Try.prog 38 #[.agg #[.int .i64 x.f0, .int .i64 x.f1, .int .i64 x.f2, .int .i64 x.f3, .int .i64 x.f4]] W _
  by_cases h : x.f0 = 1
  · have h1 : (x.f0 == 1) = true := beq_iff_eq.2 h
    clear h
    go_enter Try.func38, Try.ntmps38
    go_wp2
    go_ret
    exact ⟨by rw [h1]; first | rfl | simp_all, by repeat (first | exact hb | apply below_alloc)⟩
  · have h1 : (x.f0 == 1) = false := beq_eq_false_iff_ne.2 h
    clear h
    go_enter Try.func38, Try.ntmps38
    go_wp2
    go_ret
    exact ⟨by rw [h1]; first | rfl | simp_all, by repeat (first | exact hb | apply below_alloc)⟩
theorem impl_Region_37.calls (A0 : Option Addr) (c0 : Nat) (l0 : List S41) (r : Int) (w : World) (hr0 : Kd.C k41 w A0 l0.length l0) (hc0 : l0.length ≤ c0) (h : impl_Region_37.f l0 = some r) :
    Calls Try.prog 37 #[.slice A0 l0.length c0, .func (.func 38) #[] #[]] w fun e w' => e = .returned (.int .i64 r) ∧ Below w.heap.size w w' := by
  unfold impl_Region_37.f at h
  by_cases hlen : 0 < l0.length
  · rw [if_pos hlen] at h
    obtain rfl := Option.some.inj h
    obtain ⟨b, off, rfl, hb, hc⟩ := rows_at hr0 hlen
    have eg : ∀ args w, (callFunc 38 args).run Try.prog w = .ok (.enter 38 args) w := Go.Proofs.enters_of Try.func38 (by kernel_rfl) rfl
    have hcon := AnyQ.slices_IndexFunc Try.laysIdx 5 (fun w => by rfl) (fun w => by rfl) cellsR (fun _ => rfl) (fun x => x.f0 == 1) 38 #[] eg b off l0.length c0 l0 w (pred38 w) (Nat.le_refl _) hr0.2.1 hb hc
    rw [List.take_of_length_le (Nat.le_refl _)] at hcon
    exact hcon
  · rw [if_neg hlen] at h
    cases h

/-! ### impl_own: function 36 -/
def impl_own.f (l0 : List S41) (a1 : Int) : Option Int := if 0 < l0.length then some (idxB (fun x => x.f0 == 2 && x.f1 == a1) l0) else none
theorem pred40 (a1 : Int) (B : Nat) (w : World) (hB : B < w.heap.size) (hcell : w.cell? ⟨B, 0, none⟩ = some (.int .i64 a1)) : PredBelow Try.prog 40 #[.pointer (some ⟨B, 0, none⟩)] (fun x : S41 => .agg (cellsR x).toArray) (fun x => x.f0 == 2 && x.f1 == a1) w := fun W x hb => by
  have hc : W.cell? ⟨B, 0, none⟩ = some (.int .i64 a1) := (hb.cell (p := ⟨B, 0, none⟩) hB).trans hcell
  clear hcell
  have hc2 : ∀ o, (W.alloc o).cell? ⟨B, 0, none⟩ = some (.int .i64 a1) := fun o => Lib.cell?_alloc_some o hc
  show Calls Try.prog 40 #[.agg #[.int .i64 x.f0, .int .i64 x.f1, .int .i64 x.f2, .int .i64 x.f3, .int .i64 x.f4], .pointer (some ⟨B, 0, none⟩)] W _
  by_cases h : x.f0 = 2
  · have h1 : (x.f0 == 2) = true := beq_iff_eq.2 h
    clear h
    by_cases g : x.f1 = a1
    · have g1 : (x.f1 == a1) = true := beq_iff_eq.2 g
      clear g
      go_enter Try.func40, Try.ntmps40
      go_wp2
      go_ret
      exact ⟨by rw [h1, g1]; first | rfl | simp_all, by repeat (first | exact hb | apply below_alloc)⟩
    · have g1 : (x.f1 == a1) = false := beq_eq_false_iff_ne.2 g
      clear g
      go_enter Try.func40, Try.ntmps40
      go_wp2
      go_ret
      exact ⟨by rw [h1, g1]; first | rfl | simp_all, by repeat (first | exact hb | apply below_alloc)⟩
  · have h1 : (x.f0 == 2) = false := beq_eq_false_iff_ne.2 h
    clear h
    go_enter Try.func40, Try.ntmps40
    go_wp2
    go_ret
    exact ⟨by rw [h1]; first | rfl | simp_all, by repeat (first | exact hb | apply below_alloc)⟩
theorem impl_own.calls (A0 : Option Addr) (c0 : Nat) (l0 : List S41) (a1 : Int) (r : Int) (w : World) (hr0 : Kd.C k41 w A0 l0.length l0) (hc0 : l0.length ≤ c0) (h : impl_own.f l0 a1 = some r) :
    Calls Try.prog 36 #[.slice A0 l0.length c0, .int .i64 a1] w fun e w' => e = .returned (.int .i64 r) ∧ Below w.heap.size w w' := by
  unfold impl_own.f at h
  by_cases hlen : 0 < l0.length
  · rw [if_pos hlen] at h
    obtain rfl := Option.some.inj h
    obtain ⟨b, off, rfl, hb, hc⟩ := rows_at hr0 hlen
    have eg : ∀ args w, (callFunc 40 args).run Try.prog w = .ok (.enter 40 args) w := Go.Proofs.enters_of Try.func40 (by kernel_rfl) rfl
    have hcon := AnyQ.slices_IndexFunc Try.laysIdx 5 (fun w => by rfl) (fun w => by rfl) cellsR (fun _ => rfl) (fun x => x.f0 == 2 && x.f1 == a1) 40 #[.pointer (some ⟨w.heap.size, 0, none⟩)] eg b off l0.length c0 l0 (w.alloc (.cells #[.int .i64 a1] 3)) (pred40 a1 w.heap.size _ (by simp) (by simp)) (Nat.le_refl _) hr0.2.1 (by simp; omega) (fun j hj i v hv => Lib.cell?_alloc_some _ (hc j hj i v hv))
    rw [List.take_of_length_le (Nat.le_refl _)] at hcon
    change Calls Try.prog 37 _ _ _ at hcon
    change Calls Try.prog 36 #[.slice (some ⟨b, off, none⟩) l0.length c0, .int .i64 a1] w fun e w' => e = .returned (.int .i64 (Lib.idxBy (fun _ y => y.f0 == 2 && y.f1 == a1) l0 default)) ∧ Below w.heap.size w w'
    clear hc hr0 hc0
    generalize Lib.idxBy (fun _ (y : S41) => y.f0 == 2 && y.f1 == a1) l0 default = r at hcon ⊢
    go_enter Try.func36, Try.ntmps36
    go_wp2_with (go_at_call 37; refine hcon.mono ?_; rintro e w' ⟨rfl, hb2⟩)
    go_ret
    exact ⟨rfl, below_step (below_alloc (Below.refl _ _) _) hb2⟩
  · rw [if_neg hlen] at h
    cases h

/-! ### impl_TableTake: function 23 -/
def impl_TableTake.j0 : Nat → List (S41) → Int → Bool → Option ((List (S41)) × Int × Bool)
  | 0, _, _, _ => none
  | k + 1, x0, x1, x25 => if x25 = true then (some (([] : List (S41)), 0, false)) else ((impl_Region_37.f x0).bind fun t205 => (if t205 < 0 then (some (([] : List (S41)), 0, false)) else ((impl_Region_34.f x0).bind fun t206 => ((impl_free.f t205).bind fun bt209 => (if 0 ≤ t205 then (if t205 < (t206.length : Int) then ((some (t206.set (t205 : Int).toNat (⟨bt209.1, bt209.2.1, bt209.2.2.1, bt209.2.2.2.1, bt209.2.2.2.2⟩ : S41) : List (S41))).bind fun y214 => ((some (y214.set (t205 : Int).toNat (⟨2, (rd_T41 y214 t205).f1, (rd_T41 y214 t205).f2, (rd_T41 y214 t205).f3, (rd_T41 y214 t205).f4⟩ : S41) : List (S41))).bind fun y215 => (some ((y215.set (t205 : Int).toNat (⟨(rd_T41 y215 t205).f0, x1, (rd_T41 y215 t205).f2, (rd_T41 y215 t205).f3, (rd_T41 y215 t205).f4⟩ : S41)), t205, true)))) else (none)) else (none))))))
def impl_TableTake.f (k : Nat) (l0 : List (S41)) (a1 : Int) : Option ((List (S41)) × Int × Bool) := (impl_TableOk.f k l0).bind fun t203 => (if t203 = true then (if a1 < 0 then (impl_TableTake.j0 k l0 a1 true) else (if a1 > 3 then (impl_TableTake.j0 k l0 a1 true) else ((impl_own.f l0 a1).bind fun t204 => (impl_TableTake.j0 k l0 a1 (decide (t204 ≥ 0)))))) else (impl_TableTake.j0 k l0 a1 true))
theorem impl_TableTake.mono_l : ∀ k, (∀ y0 y1 y2, LeO (impl_TableTake.j0 k y0 y1 y2) (impl_TableTake.j0 (k + 1) y0 y1 y2))
  | 0 => fun _ _ _ r h => by simp [impl_TableTake.j0] at h
  | k + 1 => by
    have ih0 := impl_TableTake.mono_l k
    · intro y0 y1 y2
      unfold impl_TableTake.j0
      repeat' first
      | (with_reducible exact ih0 _ _ _)
      | (with_reducible exact impl_TableOk.mono _ _)
      | (with_reducible exact LeO.refl _)
      | (with_reducible exact LeO.none _)
      | (with_reducible refine LeO.ite ?_ ?_)
      | (with_reducible refine LeO.bind ?_ (fun _ => ?_))
      | exact ih0 _ _ _
      | exact impl_TableOk.mono _ _
      | exact LeO.none _
      | refine LeO.ite ?_ ?_
      | refine LeO.bind ?_ (fun _ => ?_)
theorem impl_TableTake.mono : ∀ a0 a1 k, LeO (impl_TableTake.f k a0 a1) (impl_TableTake.f (k + 1) a0 a1) := by
  intro a0 a1 k
  have ih0 := impl_TableTake.mono_l k
  unfold impl_TableTake.f
  repeat' first
      | (with_reducible exact ih0 _ _ _)
      | (with_reducible exact impl_TableOk.mono _ _)
      | (with_reducible exact LeO.refl _)
      | (with_reducible exact LeO.none _)
      | (with_reducible refine LeO.ite ?_ ?_)
      | (with_reducible refine LeO.bind ?_ (fun _ => ?_))
      | exact ih0 _ _ _
      | exact impl_TableOk.mono _ _
      | exact LeO.none _
      | refine LeO.ite ?_ ?_
      | refine LeO.bind ?_ (fun _ => ?_)
set_option maxHeartbeats 8000000 in
set_option maxRecDepth 100000 in
theorem impl_TableTake.calls (k : Nat) (A0 : Option Addr) (c0 : Nat) (l0 : List (S41)) (a1 : Int) (r1 : List (S41)) (r2 : Int) (r3 : Bool) (w : World) (hr0 : Kd.C k41 w A0 l0.length l0) (hc0 : l0.length ≤ c0) (h : impl_TableTake.f k l0 a1 = some (r1, r2, r3)) :
    Calls Try.prog 23 #[.slice A0 l0.length c0, .int .i64 a1] w fun e w' => ∃ v0_ : Value, e = .returned (.tuple #[v0_, .int .i64 r2, .bool r3]) ∧ Kd.R k41 41 w' w.heap.size (fun _ => True) v0_ r1 ∧ Below w.heap.size w w' := by
  have hu41 := Try.underlying41
  have HR0 := Aside0.mk hr0
  have HC0 := Aside0.mk hc0
  clear hr0 hc0
  have HB := Aside0.mk (Below.refl w.heap.size w)
  have H : ((impl_TableOk.f k l0).bind fun t203 => (if t203 = true then (if a1 < 0 then (impl_TableTake.j0 k l0 a1 true) else (if a1 > 3 then (impl_TableTake.j0 k l0 a1 true) else ((impl_own.f l0 a1).bind fun t204 => (impl_TableTake.j0 k l0 a1 (decide (t204 ≥ 0)))))) else (impl_TableTake.j0 k l0 a1 true))) = some (r1, r2, r3) := h
  clear h
  have HC3 := Aside0.mk H
  clear H
  go_enter Try.func23, Try.ntmps23
  go_upto_region 1 with (fail)
  go_cut [25] (fun v25 wc => ∃ (kq : Nat) (x25_2 : Bool), v25 = .bool x25_2 ∧ Aside0 (impl_TableTake.j0 kq l0 a1 x25_2 = some (r1, r2, r3)) ∧ Aside0 (kq ≤ k) ∧ Aside0 (Below w.heap.size w wc))
  case first =>
    have H := HC3.out
    clear HC3
    replace H := Option.bind_eq_some_iff.mp H
    obtain ⟨t203, A40, H⟩ := H
    replace H : (if t203 = true then (if a1 < 0 then (impl_TableTake.j0 k l0 a1 true) else (if a1 > 3 then (impl_TableTake.j0 k l0 a1 true) else ((impl_own.f l0 a1).bind fun t204 => (impl_TableTake.j0 k l0 a1 (decide (t204 ≥ 0)))))) else (impl_TableTake.j0 k l0 a1 true)) = some (r1, r2, r3) := H
    have A4 := Aside0.mk A40
    clear A40
    by_cases c5 : t203 = true
    · subst c5
      have H1 : (if a1 < 0 then (impl_TableTake.j0 k l0 a1 true) else (if a1 > 3 then (impl_TableTake.j0 k l0 a1 true) else ((impl_own.f l0 a1).bind fun t204 => (impl_TableTake.j0 k l0 a1 (decide (t204 ≥ 0)))))) = some (r1, r2, r3) := by rw [if_pos rfl] at H; exact H
      clear H
      have H := H1
      clear H1
      by_cases c6 : a1 < 0
      · rw [if_pos c6] at H
        have c6b0 : decide (a1 < 0) = true := decide_eq_true c6
        clear c6
        (first | rw [c6b0] | (simp only [i64_w, i32_w]; rw [c6b0]) | skip)
        have H' := Aside0.mk H
        clear H
        go_wp2_with (first | ((with_reducible refine gate_callee (f := 17) rfl ?_); refine goesL_ (some 10) rfl rfl Try.func17 (by kernel_rfl) rfl #[.slice A0 l0.length c0] rfl (by (try simp only [List.map_toArray, List.map_cons, List.map_nil]); first | done | rfl | (simp only [List.length_drop, List.length_take]; rfl)) ?_; (with_reducible refine (impl_TableOk.calls k _ _ l0 true _ ?side1 ?side2 A4.out).mono ?_); (case side1 => repeat (first | exact (Kd.C_below HR0.out HB.out) | (with_reducible refine Kd.C_alloc ?_ _) | (with_reducible refine Kd.C_drewN ?_ _) | (with_reducible refine Kd.C_drew ?_))); (case side2 => exact HC0.out); rintro e w7 ⟨rfl, hb⟩; refine ⟨_, rfl, ?_⟩; have n0_ := Aside0.mk (below_step (by repeat (first | (with_reducible first | exact HB.out | apply below_alloc | apply pw_below_drewN | apply below_drew1) | exact HB.out)) hb); clear HB; have HB := n0_; clear n0_; (try clear hb); (try clear hb2); (try clear hk); (try clear hi)))
        go_meet
        case rel => exact ⟨_, (true), (by first | rfl | (simp; done) | (simp [*]; done)), H', ⟨by first | omega | exact Nat.le_refl _⟩, ⟨by repeat (first | (with_reducible first | exact HB.out | apply below_alloc | apply pw_below_drewN | apply below_drew1) | exact HB.out)⟩⟩
      · rw [if_neg c6] at H
        have c6b0 : decide (a1 < 0) = false := decide_eq_false c6
        clear c6
        (first | rw [c6b0] | (simp only [i64_w, i32_w]; rw [c6b0]) | skip)
        by_cases c8 : a1 > 3
        · rw [if_pos c8] at H
          have c8b0 : decide (3 < a1) = true := decide_eq_true c8
          clear c8
          have H' := Aside0.mk H
          clear H
          go_wp2_with (first | ((with_reducible refine gate_callee (f := 17) rfl ?_); refine goesL_ (some 10) rfl rfl Try.func17 (by kernel_rfl) rfl #[.slice A0 l0.length c0] rfl (by (try simp only [List.map_toArray, List.map_cons, List.map_nil]); first | done | rfl | (simp only [List.length_drop, List.length_take]; rfl)) ?_; (with_reducible refine (impl_TableOk.calls k _ _ l0 true _ ?side1 ?side2 A4.out).mono ?_); (case side1 => repeat (first | exact (Kd.C_below HR0.out HB.out) | (with_reducible refine Kd.C_alloc ?_ _) | (with_reducible refine Kd.C_drewN ?_ _) | (with_reducible refine Kd.C_drew ?_))); (case side2 => exact HC0.out); rintro e w9 ⟨rfl, hb⟩; refine ⟨_, rfl, ?_⟩; have n0_ := Aside0.mk (below_step (by repeat (first | (with_reducible first | exact HB.out | apply below_alloc | apply pw_below_drewN | apply below_drew1) | exact HB.out)) hb); clear HB; have HB := n0_; clear n0_; (try clear hb); (try clear hb2); (try clear hk); (try clear hi)))
          go_meet
          case rel => exact ⟨_, (true), (by first | rfl | (simp; done) | (simp [*]; done)), H', ⟨by first | omega | exact Nat.le_refl _⟩, ⟨by repeat (first | (with_reducible first | exact HB.out | apply below_alloc | apply pw_below_drewN | apply below_drew1) | exact HB.out)⟩⟩
        · rw [if_neg c8] at H
          have c8b0 : decide (3 < a1) = false := decide_eq_false c8
          clear c8
          replace H := Option.bind_eq_some_iff.mp H
          obtain ⟨t204, A100, H⟩ := H
          replace H : (impl_TableTake.j0 k l0 a1 (decide (t204 ≥ 0))) = some (r1, r2, r3) := H
          have A10 := Aside0.mk A100
          clear A100
          have H' := Aside0.mk H
          clear H
          go_wp2_with (first | ((with_reducible refine gate_callee (f := 17) rfl ?_); refine goesL_ (some 10) rfl rfl Try.func17 (by kernel_rfl) rfl #[.slice A0 l0.length c0] rfl (by (try simp only [List.map_toArray, List.map_cons, List.map_nil]); first | done | rfl | (simp only [List.length_drop, List.length_take]; rfl)) ?_; (with_reducible refine (impl_TableOk.calls k _ _ l0 true _ ?side1 ?side2 A4.out).mono ?_); (case side1 => repeat (first | exact (Kd.C_below HR0.out HB.out) | (with_reducible refine Kd.C_alloc ?_ _) | (with_reducible refine Kd.C_drewN ?_ _) | (with_reducible refine Kd.C_drew ?_))); (case side2 => exact HC0.out); rintro e w11 ⟨rfl, hb⟩; refine ⟨_, rfl, ?_⟩; have n0_ := Aside0.mk (below_step (by repeat (first | (with_reducible first | exact HB.out | apply below_alloc | apply pw_below_drewN | apply below_drew1) | exact HB.out)) hb); clear HB; have HB := n0_; clear n0_; (try clear hb); (try clear hb2); (try clear hk); (try clear hi)) | (go_at_call 36; (with_reducible refine (impl_own.calls _ _ l0 a1 t204 _ ?side1 ?side2 A10.out).mono ?_); (case side1 => repeat (first | exact (Kd.C_below HR0.out HB.out) | (with_reducible refine Kd.C_alloc ?_ _) | (with_reducible refine Kd.C_drewN ?_ _) | (with_reducible refine Kd.C_drew ?_))); (case side2 => exact HC0.out); rintro e w12 ⟨rfl, hb⟩; have n0_ := Aside0.mk (below_step (by repeat (first | (with_reducible first | exact HB.out | apply below_alloc | apply pw_below_drewN | apply below_drew1) | exact HB.out)) hb); clear HB; have HB := n0_; clear n0_; (try clear hb); (try clear hb2); (try clear hk); (try clear hi)))
          go_meet
          case rel => exact ⟨_, (decide (t204 ≥ 0)), (by first | rfl | (simp; done) | (simp [*]; done)), H', ⟨by first | omega | exact Nat.le_refl _⟩, ⟨by repeat (first | (with_reducible first | exact HB.out | apply below_alloc | apply pw_below_drewN | apply below_drew1) | exact HB.out)⟩⟩
    · replace c5 := Bool.eq_false_iff.mpr c5
      subst c5
      have H1 : (impl_TableTake.j0 k l0 a1 true) = some (r1, r2, r3) := by rw [if_neg (show ¬ (false = true) by decide)] at H; exact H
      clear H
      have H := H1
      clear H1
      have H' := Aside0.mk H
      clear H
      go_wp2_with (first | ((with_reducible refine gate_callee (f := 17) rfl ?_); refine goesL_ (some 10) rfl rfl Try.func17 (by kernel_rfl) rfl #[.slice A0 l0.length c0] rfl (by (try simp only [List.map_toArray, List.map_cons, List.map_nil]); first | done | rfl | (simp only [List.length_drop, List.length_take]; rfl)) ?_; (with_reducible refine (impl_TableOk.calls k _ _ l0 false _ ?side1 ?side2 A4.out).mono ?_); (case side1 => repeat (first | exact (Kd.C_below HR0.out HB.out) | (with_reducible refine Kd.C_alloc ?_ _) | (with_reducible refine Kd.C_drewN ?_ _) | (with_reducible refine Kd.C_drew ?_))); (case side2 => exact HC0.out); rintro e w13 ⟨rfl, hb⟩; refine ⟨_, rfl, ?_⟩; have n0_ := Aside0.mk (below_step (by repeat (first | (with_reducible first | exact HB.out | apply below_alloc | apply pw_below_drewN | apply below_drew1) | exact HB.out)) hb); clear HB; have HB := n0_; clear n0_; (try clear hb); (try clear hb2); (try clear hk); (try clear hi)))
      go_meet
      case rel => exact ⟨_, (true), (by first | rfl | (simp; done) | (simp [*]; done)), H', ⟨by first | omega | exact Nat.le_refl _⟩, ⟨by repeat (first | (with_reducible first | exact HB.out | apply below_alloc | apply pw_below_drewN | apply below_drew1) | exact HB.out)⟩⟩
  case rest =>
    clear HC3
    try clear c1
    try clear c2
    try clear p2
    try clear c5
    try clear c6
    try clear c6b0
    try clear c8
    try clear c8b0
    obtain ⟨kq, x25_2, rfl, HA, HJ2, HB⟩ := hcut
    cases kq with
    | zero => exact absurd HA.out (by simp [impl_TableTake.j0])
    | succ kj2 =>
      have H := HA.out
      clear HA
      simp only [impl_TableTake.j0] at H
      by_cases c14 : x25_2 = true
      · subst c14
        have H1 : (some (([] : List (S41)), 0, false)) = some (r1, r2, r3) := by rw [if_pos rfl] at H; exact H
        clear H
        have H := H1
        clear H1
        simp only [Option.some.injEq, Prod.mk.injEq] at H
        obtain ⟨rfl, rfl, rfl⟩ := H
        go_wp2
        go_ret3
        exact ⟨_, by first | rfl | (simp [errW_none, errW_some] <;> rfl) | (simp [*, errW_none, errW_some] <;> rfl), by first | exact Kd.R_nil _ _ _ _ _ | exact Kd.N_nil _ _ _ _ _ | exact Kd.V_nil _ _ _ _ _ | exact Kd.Q_nil _ _ _ _ _ | exact Kd.S_nil _ _ _ _ _, by repeat (first | (with_reducible first | exact HB.out | apply below_alloc | apply pw_below_drewN | apply below_drew1) | exact HB.out)⟩
      · replace c14 := Bool.eq_false_iff.mpr c14
        subst c14
        have H1 : ((impl_Region_37.f l0).bind fun t205 => (if t205 < 0 then (some (([] : List (S41)), 0, false)) else ((impl_Region_34.f l0).bind fun t206 => ((impl_free.f t205).bind fun bt209 => (if 0 ≤ t205 then (if t205 < (t206.length : Int) then ((some (t206.set (t205 : Int).toNat (⟨bt209.1, bt209.2.1, bt209.2.2.1, bt209.2.2.2.1, bt209.2.2.2.2⟩ : S41) : List (S41))).bind fun y214 => ((some (y214.set (t205 : Int).toNat (⟨2, (rd_T41 y214 t205).f1, (rd_T41 y214 t205).f2, (rd_T41 y214 t205).f3, (rd_T41 y214 t205).f4⟩ : S41) : List (S41))).bind fun y215 => (some ((y215.set (t205 : Int).toNat (⟨(rd_T41 y215 t205).f0, a1, (rd_T41 y215 t205).f2, (rd_T41 y215 t205).f3, (rd_T41 y215 t205).f4⟩ : S41)), t205, true)))) else (none)) else (none)))))) = some (r1, r2, r3) := by rw [if_neg (show ¬ (false = true) by decide)] at H; exact H
        clear H
        have H := H1
        clear H1
        replace H := Option.bind_eq_some_iff.mp H
        obtain ⟨t205, A150, H⟩ := H
        replace H : (if t205 < 0 then (some (([] : List (S41)), 0, false)) else ((impl_Region_34.f l0).bind fun t206 => ((impl_free.f t205).bind fun bt209 => (if 0 ≤ t205 then (if t205 < (t206.length : Int) then ((some (t206.set (t205 : Int).toNat (⟨bt209.1, bt209.2.1, bt209.2.2.1, bt209.2.2.2.1, bt209.2.2.2.2⟩ : S41) : List (S41))).bind fun y214 => ((some (y214.set (t205 : Int).toNat (⟨2, (rd_T41 y214 t205).f1, (rd_T41 y214 t205).f2, (rd_T41 y214 t205).f3, (rd_T41 y214 t205).f4⟩ : S41) : List (S41))).bind fun y215 => (some ((y215.set (t205 : Int).toNat (⟨(rd_T41 y215 t205).f0, a1, (rd_T41 y215 t205).f2, (rd_T41 y215 t205).f3, (rd_T41 y215 t205).f4⟩ : S41)), t205, true)))) else (none)) else (none))))) = some (r1, r2, r3) := H
        have A15 := Aside0.mk A150
        clear A150
        by_cases c16 : t205 < 0
        · rw [if_pos c16] at H
          have c16b0 : decide (t205 < 0) = true := decide_eq_true c16
          clear c16
          simp only [Option.some.injEq, Prod.mk.injEq] at H
          obtain ⟨rfl, rfl, rfl⟩ := H
          go_wp2_with (first | ((with_reducible refine gate_callee (f := 37) rfl ?_); refine goesL_ (some 27) rfl rfl Try.func37 (by kernel_rfl) rfl #[.slice A0 l0.length c0, .func (.func 38) #[] #[]] rfl (by (try simp only [List.map_toArray, List.map_cons, List.map_nil]); first | done | rfl | (simp only [List.length_drop, List.length_take]; rfl)) ?_; (with_reducible refine (impl_Region_37.calls _ _ l0 t205 _ ?side1 ?side2 A15.out).mono ?_); (case side1 => repeat (first | exact (Kd.C_below HR0.out HB.out) | (with_reducible refine Kd.C_alloc ?_ _) | (with_reducible refine Kd.C_drewN ?_ _) | (with_reducible refine Kd.C_drew ?_))); (case side2 => exact HC0.out); rintro e w17 ⟨rfl, hb⟩; refine ⟨_, rfl, ?_⟩; have n0_ := Aside0.mk (below_step (by repeat (first | (with_reducible first | exact HB.out | apply below_alloc | apply pw_below_drewN | apply below_drew1) | exact HB.out)) hb); clear HB; have HB := n0_; clear n0_; (try clear hb); (try clear hb2); (try clear hk); (try clear hi)))
          go_ret3
          exact ⟨_, by first | rfl | (simp [errW_none, errW_some] <;> rfl) | (simp [*, errW_none, errW_some] <;> rfl), by first | exact Kd.R_nil _ _ _ _ _ | exact Kd.N_nil _ _ _ _ _ | exact Kd.V_nil _ _ _ _ _ | exact Kd.Q_nil _ _ _ _ _ | exact Kd.S_nil _ _ _ _ _, by repeat (first | (with_reducible first | exact HB.out | apply below_alloc | apply pw_below_drewN | apply below_drew1) | exact HB.out)⟩
        · rw [if_neg c16] at H
          have c16b0 : decide (t205 < 0) = false := decide_eq_false c16
          clear c16
          replace H := Option.bind_eq_some_iff.mp H
          obtain ⟨t206, A180, H⟩ := H
          replace H : ((impl_free.f t205).bind fun bt209 => (if 0 ≤ t205 then (if t205 < (t206.length : Int) then ((some (t206.set (t205 : Int).toNat (⟨bt209.1, bt209.2.1, bt209.2.2.1, bt209.2.2.2.1, bt209.2.2.2.2⟩ : S41) : List (S41))).bind fun y214 => ((some (y214.set (t205 : Int).toNat (⟨2, (rd_T41 y214 t205).f1, (rd_T41 y214 t205).f2, (rd_T41 y214 t205).f3, (rd_T41 y214 t205).f4⟩ : S41) : List (S41))).bind fun y215 => (some ((y215.set (t205 : Int).toNat (⟨(rd_T41 y215 t205).f0, a1, (rd_T41 y215 t205).f2, (rd_T41 y215 t205).f3, (rd_T41 y215 t205).f4⟩ : S41)), t205, true)))) else (none)) else (none))) = some (r1, r2, r3) := H
          have A18 := Aside0.mk A180
          clear A180
          replace H := Option.bind_eq_some_iff.mp H
          obtain ⟨⟨t209, t210, t211, t212, t213⟩, A190, H⟩ := H
          replace H : (if 0 ≤ t205 then (if t205 < (t206.length : Int) then ((some (t206.set (t205 : Int).toNat (⟨t209, t210, t211, t212, t213⟩ : S41) : List (S41))).bind fun y214 => ((some (y214.set (t205 : Int).toNat (⟨2, (rd_T41 y214 t205).f1, (rd_T41 y214 t205).f2, (rd_T41 y214 t205).f3, (rd_T41 y214 t205).f4⟩ : S41) : List (S41))).bind fun y215 => (some ((y215.set (t205 : Int).toNat (⟨(rd_T41 y215 t205).f0, a1, (rd_T41 y215 t205).f2, (rd_T41 y215 t205).f3, (rd_T41 y215 t205).f4⟩ : S41)), t205, true)))) else (none)) else (none)) = some (r1, r2, r3) := H
          have A19 := Aside0.mk A190
          clear A190
          by_cases c20 : 0 ≤ t205
          · rw [if_pos c20] at H
            have c20b0 : decide (0 ≤ t205) = true := decide_eq_true c20
            clear c20
            by_cases c21 : t205 < (t206.length : Int)
            · rw [if_pos c21] at H
              have c21b0 : decide (t205 < (t206.length : Int)) = true := decide_eq_true c21
              clear c21
              obtain ⟨y214, hy214⟩ : ∃ y_ : List (S41), y_ = (t206.set (t205 : Int).toNat (⟨t209, t210, t211, t212, t213⟩ : S41)) := ⟨_, rfl⟩
              replace H : ((some (y214.set (t205 : Int).toNat (⟨2, (rd_T41 y214 t205).f1, (rd_T41 y214 t205).f2, (rd_T41 y214 t205).f3, (rd_T41 y214 t205).f4⟩ : S41) : List (S41))).bind fun y215 => (some ((y215.set (t205 : Int).toNat (⟨(rd_T41 y215 t205).f0, a1, (rd_T41 y215 t205).f2, (rd_T41 y215 t205).f3, (rd_T41 y215 t205).f4⟩ : S41)), t205, true))) = some (r1, r2, r3) := by first | (rw [hy214]; with_reducible exact H) | (have H2_ := (Option.bind_some _ _).symm.trans H; rw [hy214]; with_reducible exact H2_) | (have H2_ := (Option.bind_some _ _).symm.trans H; with_reducible exact H2_) | with_reducible exact H | (rw [hy214]; exact H) | exact H
              have Ny214 := Aside0.mk hy214
              clear hy214
              obtain ⟨y215, hy215⟩ : ∃ y_ : List (S41), y_ = (y214.set (t205 : Int).toNat (⟨2, (rd_T41 y214 t205).f1, (rd_T41 y214 t205).f2, (rd_T41 y214 t205).f3, (rd_T41 y214 t205).f4⟩ : S41)) := ⟨_, rfl⟩
              replace H : (some ((y215.set (t205 : Int).toNat (⟨(rd_T41 y215 t205).f0, a1, (rd_T41 y215 t205).f2, (rd_T41 y215 t205).f3, (rd_T41 y215 t205).f4⟩ : S41)), t205, true)) = some (r1, r2, r3) := by first | (rw [hy215]; with_reducible exact H) | (have H2_ := (Option.bind_some _ _).symm.trans H; rw [hy215]; with_reducible exact H2_) | (have H2_ := (Option.bind_some _ _).symm.trans H; with_reducible exact H2_) | with_reducible exact H | (rw [hy215]; exact H) | exact H
              have Ny215 := Aside0.mk hy215
              clear hy215
              obtain ⟨y216, hy216⟩ : ∃ y_ : List (S41), y_ = (y215.set (t205 : Int).toNat (⟨(rd_T41 y215 t205).f0, a1, (rd_T41 y215 t205).f2, (rd_T41 y215 t205).f3, (rd_T41 y215 t205).f4⟩ : S41)) := ⟨_, rfl⟩
              replace H : (some (y216, t205, true)) = some (r1, r2, r3) := by first | (rw [hy216]; with_reducible exact H) | (have H2_ := (Option.bind_some _ _).symm.trans H; rw [hy216]; with_reducible exact H2_) | (have H2_ := (Option.bind_some _ _).symm.trans H; with_reducible exact H2_) | with_reducible exact H | (rw [hy216]; exact H) | exact H
              have Ny216 := Aside0.mk hy216
              clear hy216
              simp only [Option.some.injEq, Prod.mk.injEq] at H
              obtain ⟨rfl, rfl, rfl⟩ := H
              go_wp2_with (first | ((with_reducible refine gate_callee (f := 37) rfl ?_); refine goesL_ (some 27) rfl rfl Try.func37 (by kernel_rfl) rfl #[.slice A0 l0.length c0, .func (.func 38) #[] #[]] rfl (by (try simp only [List.map_toArray, List.map_cons, List.map_nil]); first | done | rfl | (simp only [List.length_drop, List.length_take]; rfl)) ?_; (with_reducible refine (impl_Region_37.calls _ _ l0 t205 _ ?side1 ?side2 A15.out).mono ?_); (case side1 => repeat (first | exact (Kd.C_below HR0.out HB.out) | (with_reducible refine Kd.C_alloc ?_ _) | (with_reducible refine Kd.C_drewN ?_ _) | (with_reducible refine Kd.C_drew ?_))); (case side2 => exact HC0.out); rintro e w25 ⟨rfl, hb⟩; refine ⟨_, rfl, ?_⟩; have n0_ := Aside0.mk (below_step (by repeat (first | (with_reducible first | exact HB.out | apply below_alloc | apply pw_below_drewN | apply below_drew1) | exact HB.out)) hb); clear HB; have HB := n0_; clear n0_; (try clear hb); (try clear hb2); (try clear hk); (try clear hi)) | ((with_reducible refine gate_callee (f := 34) rfl ?_); refine goesL_ (some 31) rfl rfl Try.func34 (by kernel_rfl) rfl #[.slice A0 l0.length c0] rfl (by (try simp only [List.map_toArray, List.map_cons, List.map_nil]); first | done | rfl | (simp only [List.length_drop, List.length_take]; rfl)) ?_; (with_reducible refine (impl_Region_34.calls _ _ l0 t206 _ ?side1 ?side2 A18.out).mono ?_); (case side1 => repeat (first | exact (Kd.C_below HR0.out HB.out) | (with_reducible refine Kd.C_alloc ?_ _) | (with_reducible refine Kd.C_drewN ?_ _) | (with_reducible refine Kd.C_drew ?_))); (case side2 => exact HC0.out); rintro e w26 ⟨v207, rfl, ho0, hb⟩; refine ⟨_, rfl, ?_⟩; have n0_ := Aside0.mk (Kd.R_lower ho0 (below_size (by repeat (first | (with_reducible first | exact HB.out | apply below_alloc | apply pw_below_drewN | apply below_drew1) | exact HB.out)))); have n1_ := Aside0.mk (below_step (by repeat (first | (with_reducible first | exact HB.out | apply below_alloc | apply pw_below_drewN | apply below_drew1) | exact HB.out)) hb); clear HB; have HO208 := n0_; have HB := n1_; clear n0_ n1_; (try clear hb); (try clear hb2); (try clear hk); (try clear hi); (try clear ho0)) | ((with_reducible refine gate_callee (f := 28) rfl ?_); refine goesL_ (some 35) rfl rfl Try.func28 (by kernel_rfl) rfl #[.int .i64 t205] rfl (by (try simp only [List.map_toArray, List.map_cons, List.map_nil]); first | done | rfl | (simp only [List.length_drop, List.length_take]; rfl)) ?_; (with_reducible refine (impl_free.calls t205 t209 t210 t211 t212 t213 _ A19.out).mono ?_); rintro e w27 ⟨rfl, hb⟩; refine ⟨_, rfl, ?_⟩; have n0_ := Aside0.mk (Kd.R_below (by (with_reducible repeat (first | apply Kd.R_alloc | apply Kd.R_drewN | apply Kd.R_drew)); exact HO208.out) hb); have n1_ := Aside0.mk (below_step (by repeat (first | (with_reducible first | exact HB.out | apply below_alloc | apply pw_below_drewN | apply below_drew1) | exact HB.out)) hb); clear HO208; clear HB; have HO208 := n0_; have HB := n1_; clear n0_ n1_; (try clear hb); (try clear hb2); (try clear hk); (try clear hi); have p22 : 0 ≤ (t205 : Int) := of_decide_eq_true (by first | (with_reducible assumption) | assumption); have q22 : (t205 : Int) < ((t206.length : Int) : Int) := of_decide_eq_true (by first | (with_reducible assumption) | assumption); obtain ⟨go22, co22, eo22, gb22, gl22, cl22, HG22⟩ := Kd.R_form HO208.out (by omega); (first | cases eo22 | (injection eo22 with ea_ en_ ec_; (first | subst ea_ | (injection ea_ with ea_; subst ea_)); subst ec_; clear en_)); have GB22 := Aside0.mk gb22; have GG22 := Aside0.mk HG22; clear gb22 gl22 HG22; obtain ⟨ce22, hcl22, hM22, hcc22, hfr22⟩ := Kd.R_elem HO208.out z41 (t205 : Int) p22 q22; obtain rfl := k41_openM hM22; have hx22_0 : w27.cell? ⟨go22, (t205 : Int).toNat * 5, none⟩ = some (.int .i64 ((rd_T41 t206 t205).f0)) := hcc22 0 _ rfl; have hx22_1 : w27.cell? ⟨go22, (t205 : Int).toNat * 5 + 1, none⟩ = some (.int .i64 ((rd_T41 t206 t205).f1)) := hcc22 1 _ rfl; have hx22_2 : w27.cell? ⟨go22, (t205 : Int).toNat * 5 + 2, none⟩ = some (.int .i64 ((rd_T41 t206 t205).f2)) := hcc22 2 _ rfl; have hx22_3 : w27.cell? ⟨go22, (t205 : Int).toNat * 5 + 3, none⟩ = some (.int .i64 ((rd_T41 t206 t205).f3)) := hcc22 3 _ rfl; have hx22_4 : w27.cell? ⟨go22, (t205 : Int).toNat * 5 + 4, none⟩ = some (.int .i64 ((rd_T41 t206 t205).f4)) := hcc22 4 _ rfl; have hf22_0 : w27.frozen? ⟨go22, (t205 : Int).toNat * 5, none⟩ = false := hfr22 0; have hf22_1 : w27.frozen? ⟨go22, (t205 : Int).toNat * 5 + 1, none⟩ = false := hfr22 1; have hf22_2 : w27.frozen? ⟨go22, (t205 : Int).toNat * 5 + 2, none⟩ = false := hfr22 2; have hf22_3 : w27.frozen? ⟨go22, (t205 : Int).toNat * 5 + 3, none⟩ = false := hfr22 3; have hf22_4 : w27.frozen? ⟨go22, (t205 : Int).toNat * 5 + 4, none⟩ = false := hfr22 4; clear hcl22 hcc22 hfr22 hM22; replace p22 := eq_true p22; replace q22 := eq_true q22; have HX28 := Aside0.mk (show Kd.R k41 41 w27 w.heap.size (fun _ => True) (.slice (some ⟨go22, 0, none⟩) t206.length co22) t206 from (by (with_reducible repeat (first | apply Kd.R_alloc | apply Kd.R_drewN | apply Kd.R_drew)); exact HO208.out)); obtain ⟨ce28, hcl28, hM28, hcc28, hfr28⟩ := Kd.R_elem HX28.out z41 (t205 : Int) (of_decide_eq_true (by first | (with_reducible assumption) | assumption)) (by have h_ : (t205 : Int) < ((t206.length : Int) : Int) := of_decide_eq_true (by first | (with_reducible assumption) | assumption); first | exact h_ | (have e_ := (Kd.R_reads' HO208.out).1; omega) | simpa using h_); obtain rfl := k41_openM hM28; have HP28 := Kd.R_seg HX28.out (t205 : Int) (of_decide_eq_true (by first | (with_reducible assumption) | assumption)) (by have h_ : (t205 : Int) < ((t206.length : Int) : Int) := of_decide_eq_true (by first | (with_reducible assumption) | assumption); first | exact h_ | (have e_ := (Kd.R_reads' HO208.out).1; omega) | simpa using h_) (seg := [.int .i64 t209, .int .i64 t210, .int .i64 t211, .int .i64 t212, .int .i64 t213]) (j := 0) hcl28 hcc28 (show 5 ≤ 5 from by decide) (x' := (⟨t209, t210, t211, t212, t213⟩ : S41)) (k41_mkM _ _ _ (⟨t209, t210, t211, t212, t213⟩ : S41) ) (fun _ hk => hk); have hx28_0 := hcc28 0 _ rfl; (try simp only [show (k41).sz = 5 from rfl, Nat.mul_one, Nat.add_zero] at hx28_0); have hf28_0 := hfr28 0; (try simp only [show (k41).sz = 5 from rfl, Nat.mul_one, Nat.add_zero] at hf28_0); have hx28_1 := hcc28 1 _ rfl; (try simp only [show (k41).sz = 5 from rfl, Nat.mul_one, Nat.add_zero] at hx28_1); have hf28_1 := hfr28 1; (try simp only [show (k41).sz = 5 from rfl, Nat.mul_one, Nat.add_zero] at hf28_1); have hx28_2 := hcc28 2 _ rfl; (try simp only [show (k41).sz = 5 from rfl, Nat.mul_one, Nat.add_zero] at hx28_2); have hf28_2 := hfr28 2; (try simp only [show (k41).sz = 5 from rfl, Nat.mul_one, Nat.add_zero] at hf28_2); have hx28_3 := hcc28 3 _ rfl; (try simp only [show (k41).sz = 5 from rfl, Nat.mul_one, Nat.add_zero] at hx28_3); have hf28_3 := hfr28 3; (try simp only [show (k41).sz = 5 from rfl, Nat.mul_one, Nat.add_zero] at hf28_3); have hx28_4 := hcc28 4 _ rfl; (try simp only [show (k41).sz = 5 from rfl, Nat.mul_one, Nat.add_zero] at hx28_4); have hf28_4 := hfr28 4; (try simp only [show (k41).sz = 5 from rfl, Nat.mul_one, Nat.add_zero] at hf28_4); clear hcl28 hcc28 hfr28 hM28) | ((with_reducible refine gate_store (t := 41) (p := 36) rfl ?_); refine store_event (t := 41) (p := 36) (v := ?vo_w29) (w1 := (((((w27.setCell ⟨go22, (t205 : Int).toNat * 5, none⟩ (.int .i64 t209)).setCell ⟨go22, (t205 : Int).toNat * 5 + 1, none⟩ (.int .i64 t210)).setCell ⟨go22, (t205 : Int).toNat * 5 + 2, none⟩ (.int .i64 t211)).setCell ⟨go22, (t205 : Int).toNat * 5 + 3, none⟩ (.int .i64 t212)).setCell ⟨go22, (t205 : Int).toNat * 5 + 4, none⟩ (.int .i64 t213))) ?hg ?ho ?hn ?hr ?_; (case ho => rfl); (case hg => rfl); (case hn => rfl); (case hr => first | (go_simp; done) | (go_simp; rfl)); intro w29 hw; have hg : w27.grownBy w29 (some go22) := (by rw [hw]; exact HP28.2); have hp_ : Kd.R k41 41 w29 w.heap.size (fun _ => True) (.slice (some ⟨go22, 0, none⟩) t206.length co22) y214 := (by rw [hw, Ny214.out]; exact HP28.1); clear HP28; have n0_ := Aside0.mk (hp_); have n1_ := Aside0.mk ((by rw [hw]; exact below_set (below_set (below_set (below_set (below_set (HB.out) GB22.out) GB22.out) GB22.out) GB22.out) GB22.out : Below w.heap.size w w29)); clear HO208; clear HB; have HO208 := n0_; have HB := n1_; clear n0_ n1_; clear hg hw hp_; have p23 : 0 ≤ (t205 : Int) := of_decide_eq_true (by first | (with_reducible assumption) | assumption); have q23 : (t205 : Int) < ((t206.length : Int) : Int) := of_decide_eq_true (by first | (with_reducible assumption) | assumption); obtain ⟨ce23, hcl23, hM23, hcc23, hfr23⟩ := Kd.R_elem HO208.out z41 (t205 : Int) p23 q23; obtain rfl := k41_openM hM23; have hx23_0 : w29.cell? ⟨go22, (t205 : Int).toNat * 5, none⟩ = some (.int .i64 ((rd_T41 y214 t205).f0)) := hcc23 0 _ rfl; have hx23_1 : w29.cell? ⟨go22, (t205 : Int).toNat * 5 + 1, none⟩ = some (.int .i64 ((rd_T41 y214 t205).f1)) := hcc23 1 _ rfl; have hx23_2 : w29.cell? ⟨go22, (t205 : Int).toNat * 5 + 2, none⟩ = some (.int .i64 ((rd_T41 y214 t205).f2)) := hcc23 2 _ rfl; have hx23_3 : w29.cell? ⟨go22, (t205 : Int).toNat * 5 + 3, none⟩ = some (.int .i64 ((rd_T41 y214 t205).f3)) := hcc23 3 _ rfl; have hx23_4 : w29.cell? ⟨go22, (t205 : Int).toNat * 5 + 4, none⟩ = some (.int .i64 ((rd_T41 y214 t205).f4)) := hcc23 4 _ rfl; have hf23_0 : w29.frozen? ⟨go22, (t205 : Int).toNat * 5, none⟩ = false := hfr23 0; have hf23_1 : w29.frozen? ⟨go22, (t205 : Int).toNat * 5 + 1, none⟩ = false := hfr23 1; have hf23_2 : w29.frozen? ⟨go22, (t205 : Int).toNat * 5 + 2, none⟩ = false := hfr23 2; have hf23_3 : w29.frozen? ⟨go22, (t205 : Int).toNat * 5 + 3, none⟩ = false := hfr23 3; have hf23_4 : w29.frozen? ⟨go22, (t205 : Int).toNat * 5 + 4, none⟩ = false := hfr23 4; clear hcl23 hcc23 hfr23 hM23; replace p23 := eq_true p23; replace q23 := eq_true q23; have HX30 := Aside0.mk (show Kd.R k41 41 w29 w.heap.size (fun _ => True) (.slice (some ⟨go22, 0, none⟩) t206.length co22) y214 from (by (with_reducible repeat (first | apply Kd.R_alloc | apply Kd.R_drewN | apply Kd.R_drew)); exact HO208.out)); obtain ⟨ce30, hcl30, hM30, hcc30, hfr30⟩ := Kd.R_elem HX30.out z41 (t205 : Int) (of_decide_eq_true (by first | (with_reducible assumption) | assumption)) (by have h_ : (t205 : Int) < ((t206.length : Int) : Int) := of_decide_eq_true (by first | (with_reducible assumption) | assumption); first | exact h_ | (have e_ := (Kd.R_reads' HO208.out).1; omega) | simpa using h_); obtain rfl := k41_openM hM30; have HP30 := Kd.R_seg HX30.out (t205 : Int) (of_decide_eq_true (by first | (with_reducible assumption) | assumption)) (by have h_ : (t205 : Int) < ((t206.length : Int) : Int) := of_decide_eq_true (by first | (with_reducible assumption) | assumption); first | exact h_ | (have e_ := (Kd.R_reads' HO208.out).1; omega) | simpa using h_) (seg := [.int .i64 2]) (j := 0) hcl30 hcc30 (show 1 ≤ 5 from by decide) (x' := (⟨2, (rd_T41 y214 t205).f1, (rd_T41 y214 t205).f2, (rd_T41 y214 t205).f3, (rd_T41 y214 t205).f4⟩ : S41)) (k41_mkM _ _ _ (⟨2, (rd_T41 y214 t205).f1, (rd_T41 y214 t205).f2, (rd_T41 y214 t205).f3, (rd_T41 y214 t205).f4⟩ : S41) ) (fun _ hk => hk); have hx30_0 := hcc30 0 _ rfl; (try simp only [show (k41).sz = 5 from rfl, Nat.mul_one, Nat.add_zero] at hx30_0); have hf30_0 := hfr30 0; (try simp only [show (k41).sz = 5 from rfl, Nat.mul_one, Nat.add_zero] at hf30_0); clear hcl30 hcc30 hfr30 hM30) | ((with_reducible refine gate_store (t := 3) (p := 43) rfl ?_); refine store_event (t := 3) (p := 43) (v := ?vo_w31) (w1 := (w29.setCell ⟨go22, (t205 : Int).toNat * 5, none⟩ (.int .i64 2))) ?hg ?ho ?hn ?hr ?_; (case ho => rfl); (case hg => rfl); (case hn => rfl); (case hr => first | (go_simp; done) | (go_simp; rfl)); intro w31 hw; have hg : w29.grownBy w31 (some go22) := (by rw [hw]; exact HP30.2); have hp_ : Kd.R k41 41 w31 w.heap.size (fun _ => True) (.slice (some ⟨go22, 0, none⟩) t206.length co22) y215 := (by rw [hw, Ny215.out]; exact HP30.1); clear HP30; have n0_ := Aside0.mk (hp_); have n1_ := Aside0.mk ((by rw [hw]; exact below_set (HB.out) GB22.out : Below w.heap.size w w31)); clear HO208; clear HB; have HO208 := n0_; have HB := n1_; clear n0_ n1_; clear hg hw hp_; have p24 : 0 ≤ (t205 : Int) := of_decide_eq_true (by first | (with_reducible assumption) | assumption); have q24 : (t205 : Int) < ((t206.length : Int) : Int) := of_decide_eq_true (by first | (with_reducible assumption) | assumption); obtain ⟨ce24, hcl24, hM24, hcc24, hfr24⟩ := Kd.R_elem HO208.out z41 (t205 : Int) p24 q24; obtain rfl := k41_openM hM24; have hx24_0 : w31.cell? ⟨go22, (t205 : Int).toNat * 5, none⟩ = some (.int .i64 ((rd_T41 y215 t205).f0)) := hcc24 0 _ rfl; have hx24_1 : w31.cell? ⟨go22, (t205 : Int).toNat * 5 + 1, none⟩ = some (.int .i64 ((rd_T41 y215 t205).f1)) := hcc24 1 _ rfl; have hx24_2 : w31.cell? ⟨go22, (t205 : Int).toNat * 5 + 2, none⟩ = some (.int .i64 ((rd_T41 y215 t205).f2)) := hcc24 2 _ rfl; have hx24_3 : w31.cell? ⟨go22, (t205 : Int).toNat * 5 + 3, none⟩ = some (.int .i64 ((rd_T41 y215 t205).f3)) := hcc24 3 _ rfl; have hx24_4 : w31.cell? ⟨go22, (t205 : Int).toNat * 5 + 4, none⟩ = some (.int .i64 ((rd_T41 y215 t205).f4)) := hcc24 4 _ rfl; have hf24_0 : w31.frozen? ⟨go22, (t205 : Int).toNat * 5, none⟩ = false := hfr24 0; have hf24_1 : w31.frozen? ⟨go22, (t205 : Int).toNat * 5 + 1, none⟩ = false := hfr24 1; have hf24_2 : w31.frozen? ⟨go22, (t205 : Int).toNat * 5 + 2, none⟩ = false := hfr24 2; have hf24_3 : w31.frozen? ⟨go22, (t205 : Int).toNat * 5 + 3, none⟩ = false := hfr24 3; have hf24_4 : w31.frozen? ⟨go22, (t205 : Int).toNat * 5 + 4, none⟩ = false := hfr24 4; clear hcl24 hcc24 hfr24 hM24; replace p24 := eq_true p24; replace q24 := eq_true q24; have HX32 := Aside0.mk (show Kd.R k41 41 w31 w.heap.size (fun _ => True) (.slice (some ⟨go22, 0, none⟩) t206.length co22) y215 from (by (with_reducible repeat (first | apply Kd.R_alloc | apply Kd.R_drewN | apply Kd.R_drew)); exact HO208.out)); obtain ⟨ce32, hcl32, hM32, hcc32, hfr32⟩ := Kd.R_elem HX32.out z41 (t205 : Int) (of_decide_eq_true (by first | (with_reducible assumption) | assumption)) (by have h_ : (t205 : Int) < ((t206.length : Int) : Int) := of_decide_eq_true (by first | (with_reducible assumption) | assumption); first | exact h_ | (have e_ := (Kd.R_reads' HO208.out).1; omega) | simpa using h_); obtain rfl := k41_openM hM32; have HP32 := Kd.R_seg HX32.out (t205 : Int) (of_decide_eq_true (by first | (with_reducible assumption) | assumption)) (by have h_ : (t205 : Int) < ((t206.length : Int) : Int) := of_decide_eq_true (by first | (with_reducible assumption) | assumption); first | exact h_ | (have e_ := (Kd.R_reads' HO208.out).1; omega) | simpa using h_) (seg := [.int .i64 a1]) (j := 1) hcl32 hcc32 (show 2 ≤ 5 from by decide) (x' := (⟨(rd_T41 y215 t205).f0, a1, (rd_T41 y215 t205).f2, (rd_T41 y215 t205).f3, (rd_T41 y215 t205).f4⟩ : S41)) (k41_mkM _ _ _ (⟨(rd_T41 y215 t205).f0, a1, (rd_T41 y215 t205).f2, (rd_T41 y215 t205).f3, (rd_T41 y215 t205).f4⟩ : S41) ) (fun _ hk => hk); have hx32_1 := hcc32 1 _ rfl; (try simp only [show (k41).sz = 5 from rfl, Nat.mul_one, Nat.add_zero] at hx32_1); have hf32_1 := hfr32 1; (try simp only [show (k41).sz = 5 from rfl, Nat.mul_one, Nat.add_zero] at hf32_1); clear hcl32 hcc32 hfr32 hM32) | ((with_reducible refine gate_store (t := 3) (p := 45) rfl ?_); refine store_event (t := 3) (p := 45) (v := ?vo_w33) (w1 := (w31.setCell ⟨go22, (t205 : Int).toNat * 5 + 1, none⟩ (.int .i64 a1))) ?hg ?ho ?hn ?hr ?_; (case ho => rfl); (case hg => rfl); (case hn => rfl); (case hr => first | (go_simp; done) | (go_simp; rfl)); intro w33 hw; have hg : w31.grownBy w33 (some go22) := (by rw [hw]; exact HP32.2); have hp_ : Kd.R k41 41 w33 w.heap.size (fun _ => True) (.slice (some ⟨go22, 0, none⟩) t206.length co22) y216 := (by rw [hw, Ny216.out]; exact HP32.1); clear HP32; have n0_ := Aside0.mk (hp_); have n1_ := Aside0.mk ((by rw [hw]; exact below_set (HB.out) GB22.out : Below w.heap.size w w33)); clear HO208; clear HB; have HO208 := n0_; have HB := n1_; clear n0_ n1_; clear hg hw hp_))
              go_ret3
              exact ⟨_, by first | rfl | (simp [errW_none, errW_some] <;> rfl) | (simp [*, errW_none, errW_some] <;> rfl), by (with_reducible repeat (first | apply Kd.R_alloc | apply Kd.R_drewN | apply Kd.R_drew)); exact HO208.out, by repeat (first | (with_reducible first | exact HB.out | apply below_alloc | apply pw_below_drewN | apply below_drew1) | exact HB.out)⟩
            · rw [if_neg c21] at H
              exact absurd H (by simp)
          · rw [if_neg c20] at H
            exact absurd H (by simp)

end Go.Proofs.Ytfonbakjfajbcaa.QFnExactTableRoom
