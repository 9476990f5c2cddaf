-- Written by a program of this session that drives the print of the kit, with contracts of its own beside the printed ones. Lean checks it.
import Derived.Test.YtdaikmojalfimaaQFnExactPathFromx0
import Derived.Test.YtdaikmojalfimaaQFnExactPathFromx6
namespace Go.Proofs.Ytdaikmojalfimaa.QFnExactPathFrom
open Go.RowKit Go.Proofs.YtdaikmojalfimaaW.PrintWords Go.Proofs.YtdaikmojalfimaaW.PrintLast Go.Proofs.YtdaikmojalfimaaW.PrintMore
attribute [local go_sem] max2_int min2_int max_two min_two max_three min_three max_four min_four   -- for this text's walks alone
set_option linter.unusedVariables false
set_option linter.unusedSimpArgs false

/-! ### slices_Reverse_int_int: function 50 -/
def slices_Reverse_int_int.l0 : Nat → List Int → Int → Int → Option (List Int)
  | 0, _, _, _ => none
  | k + 1, x0, x2, x3 => if x2 < x3 then (if 0 ≤ x3 then (if x3 < (x0.length : Int) then (if 0 ≤ x2 then (if x2 < (x0.length : Int) then (slices_Reverse_int_int.l0 k ((x0.set (x2 : Int).toNat (rd x0 x3)).set (x3 : Int).toNat (rd x0 x2)) (wrap64 (x2 + 1)) (wrap64 (x3 - 1))) else (none)) else (none)) else (none)) else (none)) else (some x0)
def slices_Reverse_int_int.f (k : Nat) (l0 : List Int) : Option (List Int) := slices_Reverse_int_int.l0 k l0 0 (wrap64 ((l0.length : Int) - 1))
theorem slices_Reverse_int_int.mono_l : ∀ k, (∀ y0 y1 y2, LeO (slices_Reverse_int_int.l0 k y0 y1 y2) (slices_Reverse_int_int.l0 (k + 1) y0 y1 y2))
  | 0 => fun _ _ _ r h => by simp [slices_Reverse_int_int.l0] at h
  | k + 1 => by
    have ih0 := slices_Reverse_int_int.mono_l k
    · intro y0 y1 y2
      unfold slices_Reverse_int_int.l0
      repeat' first
      | (with_reducible exact ih0 _ _ _)
      | (with_reducible exact LeO.refl _)
      | (with_reducible exact LeO.none _)
      | (with_reducible refine LeO.ite ?_ ?_)
      | (with_reducible refine LeO.bind ?_ (fun _ => ?_))
      | exact ih0 _ _ _
      | exact LeO.none _
      | refine LeO.ite ?_ ?_
      | refine LeO.bind ?_ (fun _ => ?_)
theorem slices_Reverse_int_int.mono : ∀ a0 k, LeO (slices_Reverse_int_int.f k a0) (slices_Reverse_int_int.f (k + 1) a0) := by
  intro a0 k
  have ih0 := slices_Reverse_int_int.mono_l k
  unfold slices_Reverse_int_int.f
  repeat' first
      | (with_reducible exact ih0 _ _ _)
      | (with_reducible exact LeO.refl _)
      | (with_reducible exact LeO.none _)
      | (with_reducible refine LeO.ite ?_ ?_)
      | (with_reducible refine LeO.bind ?_ (fun _ => ?_))
      | exact ih0 _ _ _
      | exact LeO.none _
      | refine LeO.ite ?_ ?_
      | refine LeO.bind ?_ (fun _ => ?_)
def slices_Reverse_int_int.T3 : Bool × List (List Nat × List Nat) := (true, [([], []), ([], []), ([], []), ([], []), ([], []), ([], []), ([4, 5], [4, 5]), ([6], [6]), ([], []), ([], []), ([8, 9], [8, 9]), ([10], [10]), ([0, 1, 0, 1, 4, 5, 6, 7, 11], [0, 1]), ([12, 7, 0, 1, 4, 5, 6, 7, 11], [7, 12]), ([2, 3, 0, 1, 2, 3, 4, 5, 6, 7, 8, 9, 10, 11, 12, 13], [2, 3]), ([14, 11, 13, 0, 1, 2, 3, 4, 5, 6, 7, 8, 9, 10, 11, 12, 13], [11, 14])])
def slices_Reverse_int_int.B3 : List Nat := [0, 0, 0, 0, 0, 0, 48, 112, 0, 0, 768, 1792, 4083, 8179, 16383, 32767]
theorem slices_Reverse_int_int.tab3 : rtab .any (opsOf Try.f50 3) = slices_Reverse_int_int.T3 := by kernel_rfl
theorem slices_Reverse_int_int.bits3 : waitsOk slices_Reverse_int_int.T3.2 slices_Reverse_int_int.B3 = true := by kernel_rfl
set_option maxHeartbeats 8000000 in
set_option maxRecDepth 100000 in
theorem slices_Reverse_int_int.calls (k : Nat) (P0_ : Nat → Prop) (u9000_ : Value) (l0 : List Int) (r : List Int) (w0 w : World) (hB : Below w0.heap.size w0 w) (ho0 : Kd.R (Kd.int .i64) 3 w w0.heap.size P0_ u9000_ l0) (h : slices_Reverse_int_int.f k l0 = some r) :
    Calls Try.prog 50 #[u9000_] w fun e w' => e = .returned (.tuple #[]) ∧ Kd.R (Kd.int .i64) 3 w' w0.heap.size (fun k_ => (P0_ k_ ∨ w.heap.size ≤ k_)) u9000_ r ∧ Below w0.heap.size w0 w' ∧ Kept w w' (fun k_ => P0_ k_) := by
  have HO0 := Aside0.mk (show Kd.R (Kd.int .i64) 3 w w0.heap.size (fun k_ => (P0_ k_ ∨ w.heap.size ≤ k_)) u9000_ l0 from Kd.R_mono ho0 (fun k_ hk => (.inl hk)))
  have HK := Aside0.mk (Kept.refl w (fun k_ => P0_ k_))
  have HW0 := Aside0.mk hB.size
  have HB := Aside0.mk hB
  clear hB
  have H : (slices_Reverse_int_int.l0 k l0 0 (wrap64 ((l0.length : Int) - 1))) = some r := h
  clear h
  have H' := Aside0.mk H
  clear H
  obtain ⟨Ao2, co2, eo2⟩ := Kd.R_slice HO0.out
  subst eo2
  go_enter Try.func50, Try.ntmps50
  go_wp2
  go_loopg [2, 3] k (fun kq v2 v3 w' => ∃ (x0_1 : List Int) (x2_1 : Int) (x3_1 : Int), v2 = .int .i64 x2_1 ∧ v3 = .int .i64 x3_1 ∧ Aside0 (slices_Reverse_int_int.l0 kq x0_1 x2_1 x3_1 = some r) ∧ Aside0 (kq ≤ k) ∧ Aside0 (Kd.R (Kd.int .i64) 3 w' w0.heap.size (fun k_ => (P0_ k_ ∨ w.heap.size ≤ k_)) (.slice Ao2 l0.length co2) x0_1) ∧ Aside0 (Kept w w' (fun k_ => P0_ k_)) ∧ Aside0 (Below w0.heap.size w0 w'))
  case atStart => exact ⟨(l0), (0), (wrap64 ((l0.length : Int) - 1)), (by first | rfl | (simp; done) | (simp [*]; done)), (by first | rfl | (simp; done) | (simp [*]; done)), H', ⟨Nat.le_refl _⟩, ⟨by (with_reducible repeat (first | apply Kd.R_alloc | apply Kd.R_drewN | apply Kd.R_drew)); exact HO0.out⟩, ⟨by repeat (first | (with_reducible first | exact HK.out | apply Kept.alloc | apply Kept.drewN | apply Kept.drew) | exact HK.out)⟩, ⟨by repeat (first | (with_reducible first | exact HB.out | apply below_alloc | apply pw_below_drewN | apply below_drew1) | exact HB.out)⟩⟩
  case round =>
    clear H'
    try clear p2
    obtain ⟨x0_1, x2_1, x3_1, rfl, rfl, HA, HK1, HO_0, HK, HB⟩ := hrel
    have hl0_1 := (Kd.R_reads' HO_0.out).1
    rw [hl0_1] at HO_0
    (try simp only [hl0_1])
    cases gk with
    | zero => exact absurd HA.out (by simp [slices_Reverse_int_int.l0])
    | succ k1 =>
      have H := HA.out
      clear HA
      simp only [slices_Reverse_int_int.l0] at H
      by_cases c3 : x2_1 < x3_1
      · rw [if_pos c3] at H
        have c3b0 : decide (x2_1 < x3_1) = true := decide_eq_true c3
        clear c3
        by_cases c4 : 0 ≤ x3_1
        · rw [if_pos c4] at H
          have c4b0 : decide (0 ≤ x3_1) = true := decide_eq_true c4
          clear c4
          by_cases c5 : x3_1 < (x0_1.length : Int)
          · rw [if_pos c5] at H
            have c5b0 : decide (x3_1 < (x0_1.length : Int)) = true := decide_eq_true c5
            clear c5
            by_cases c6 : 0 ≤ x2_1
            · rw [if_pos c6] at H
              have c6b0 : decide (0 ≤ x2_1) = true := decide_eq_true c6
              clear c6
              by_cases c7 : x2_1 < (x0_1.length : Int)
              · rw [if_pos c7] at H
                have c7b0 : decide (x2_1 < (x0_1.length : Int)) = true := decide_eq_true c7
                clear c7
                obtain ⟨y236, hy236⟩ : ∃ y_ : List Int, y_ = (x0_1.set (x2_1 : Int).toNat (rd x0_1 x3_1)) := ⟨_, rfl⟩
                replace H : (slices_Reverse_int_int.l0 k1 (y236.set (x3_1 : Int).toNat (rd x0_1 x2_1)) (wrap64 (x2_1 + 1)) (wrap64 (x3_1 - 1))) = some r := by first | (rw [hy236]; with_reducible exact H) | (have H2_ := (Option.bind_some _ _).symm.trans H; rw [hy236]; with_reducible exact H2_) | (have H2_ := (Option.bind_some _ _).symm.trans H; with_reducible exact H2_) | with_reducible exact H | (rw [hy236]; exact H) | exact H
                have Ny236 := Aside0.mk hy236
                clear hy236
                obtain ⟨y237, hy237⟩ : ∃ y_ : List Int, y_ = (y236.set (x3_1 : Int).toNat (rd x0_1 x2_1)) := ⟨_, rfl⟩
                replace H : (slices_Reverse_int_int.l0 k1 y237 (wrap64 (x2_1 + 1)) (wrap64 (x3_1 - 1))) = some r := by first | (rw [hy237]; with_reducible exact H) | (have H2_ := (Option.bind_some _ _).symm.trans H; rw [hy237]; with_reducible exact H2_) | (have H2_ := (Option.bind_some _ _).symm.trans H; with_reducible exact H2_) | with_reducible exact H | (rw [hy237]; exact H) | exact H
                have Ny237 := Aside0.mk hy237
                clear hy237
                have H' := Aside0.mk H
                clear H
                try go_wp2
                have n0_ := Aside0.mk (Kd.R_drew HO_0.out)
                have n1_ := Aside0.mk (Kept.drew HK.out)
                have n2_ := Aside0.mk (below_drew1 HB.out)
                clear HO_0
                clear HK
                clear HB
                have HO_0 := n0_
                have HK := n1_
                have HB := n2_
                clear n0_ n1_ n2_
                have p234 : 0 ≤ (x3_1 : Int) := of_decide_eq_true (by first | (with_reducible assumption) | assumption)
                have q234 : x3_1 < (x0_1.length : Int) := of_decide_eq_true (by first | (with_reducible assumption) | assumption)
                obtain ⟨ad234, e234, hx234_0⟩ := Kd.at_int (Kd.R_reads' HO_0.out).2.2 x3_1 p234 q234
                cases e234
                replace p234 := eq_true p234
                replace q234 := eq_true q234
                have p235 : 0 ≤ (x2_1 : Int) := of_decide_eq_true (by first | (with_reducible assumption) | assumption)
                have q235 : x2_1 < (x0_1.length : Int) := of_decide_eq_true (by first | (with_reducible assumption) | assumption)
                obtain ⟨ad235, e235, hx235_0⟩ := Kd.at_int (Kd.R_reads' HO_0.out).2.2 x2_1 p235 q235
                obtain rfl : ad234 = ad235 := (by injection e235)
                replace p235 := eq_true p235
                replace q235 := eq_true q235
                have p8 : 0 ≤ (x2_1 : Int) := of_decide_eq_true (by first | (with_reducible assumption) | assumption)
                have q8 : (x2_1 : Int) < ((x0_1.length : Int) : Int) := of_decide_eq_true (by first | (with_reducible assumption) | assumption)
                obtain ⟨go8, co8, eo8, gb8, gl8, cl8, HG8⟩ := Kd.R_form HO_0.out (by omega)
                (first | cases eo8 | (injection eo8 with ea_ en_ ec_; (first | subst ea_ | (injection ea_ with ea_; subst ea_)); subst ec_; clear en_))
                have GB8 := Aside0.mk gb8
                have GG8 := Aside0.mk HG8
                clear gb8 gl8 HG8
                have HMgo8 := Aside0.mk (show (P0_ go8 ∨ w.heap.size ≤ go8) from (HO_0.out.1 _ rfl))
                (first | simp only [add_plain] at hx234_0 | skip)
                (first | simp only [add_plain] at hx235_0 | skip)
                obtain ⟨hx8_0, hf8_0⟩ := Kd.R_celln 0 HO_0.out (x2_1 : Int) p8 q8
                replace p8 := eq_true p8
                replace q8 := eq_true q8
                have HP11 := Kd.R_putn HO_0.out (x2_1 : Int) (rd x0_1 x3_1)
                rw [← Ny236.out] at HP11
                have HQ11 := Aside0.mk HP11
                clear HP11
                have p9 : 0 ≤ (x3_1 : Int) := of_decide_eq_true (by first | (with_reducible assumption) | assumption)
                have q9 : (x3_1 : Int) < ((x0_1.length : Int) : Int) := of_decide_eq_true (by first | (with_reducible assumption) | assumption)
                obtain ⟨hx9_0, hf9_0⟩ := Kd.R_celln 0 HQ11.out (x3_1 : Int) p9 q9
                replace p9 := eq_true p9
                replace q9 := eq_true q9
                have HP12 := Kd.R_putn HQ11.out (x3_1 : Int) (rd x0_1 x2_1)
                rw [← Ny237.out] at HP12
                have HQ12 := Aside0.mk HP12
                clear HP12
                refine start_ (n := 16) (S := fun w' => w'.cell? ⟨go8, (x3_1).toNat, none⟩ = some (.int .i64 (rd x0_1 x3_1)) ∧ w'.cell? ⟨go8, (x2_1).toNat, none⟩ = some (.int .i64 (rd x0_1 x2_1))) (ds := [13, 15]) #[false, false, false, false, false, false, false, false, false, false, false, false, false, false, false, false] (by kernel_rfl) rfl rfl ⟨hx234_0, hx235_0⟩ (fun hHeld => ?_); refine with_tabW slices_Reverse_int_int.tab3 slices_Reverse_int_int.bits3 (fun HT_ HW_ => ?_)
                generalize wr.drew = w10 at HO_0 HK HB GG8 HQ11 HQ12 hf8_0 hf9_0 hx234_0 hx235_0 hx8_0 hx9_0 hHeld ⊢
                refine pure_ (i := 0) (N := some 14) (v := ?_) (a' := ?_) #[true, false, false, false, false, false, false, false, false, false, false, false, false, false, false, false] rfl rfl (any_of HT_.out (by kernel_rfl)) (fun _ _ _ h => h) (Or.inl ⟨by rfl, ?_⟩) ?_ ?_
                rotate_left
                · intro w'
                  go_simp
                  with_reducible rfl
                rotate_left
                · simp only [Act.put, List.setIfInBounds_toArray, List.set_cons_zero, List.set_cons_succ, i64_w, i32_w]
                  rfl
                refine pure_ (i := 1) (N := some 15) (v := ?_) (a' := ?_) #[true, true, false, false, false, false, false, false, false, false, false, false, false, false, false, false] rfl rfl (any_of HT_.out (by kernel_rfl)) (fun _ _ _ h => h) (Or.inl ⟨by rfl, ?_⟩) ?_ ?_
                rotate_left
                · intro w'
                  go_simp
                  with_reducible rfl
                rotate_left
                · simp only [Act.put, List.setIfInBounds_toArray, List.set_cons_zero, List.set_cons_succ, i64_w, i32_w]
                  rfl
                refine pure_ (i := 2) (N := some 16) (v := ?_) (a' := ?_) #[true, true, true, false, false, false, false, false, false, false, false, false, false, false, false, false] rfl rfl (any_of HT_.out (by kernel_rfl)) (fun _ _ _ h => h) (Or.inl ⟨by rfl, ?_⟩) ?_ ?_
                rotate_left
                · intro w'
                  go_simp
                  with_reducible rfl
                rotate_left
                · simp only [Act.put, List.setIfInBounds_toArray, List.set_cons_zero, List.set_cons_succ, i64_w, i32_w]
                  rfl
                refine pure_ (i := 3) (N := some 17) (v := ?_) (a' := ?_) #[true, true, true, true, false, false, false, false, false, false, false, false, false, false, false, false] rfl rfl (any_of HT_.out (by kernel_rfl)) (fun _ _ _ h => h) (Or.inl ⟨by rfl, ?_⟩) ?_ ?_
                rotate_left
                · intro w'
                  go_simp
                  with_reducible rfl
                rotate_left
                · simp only [Act.put, List.setIfInBounds_toArray, List.set_cons_zero, List.set_cons_succ, i64_w, i32_w]
                  rfl
                refine pure_ (i := 4) (N := some 18) (v := ?_) (a' := ?_) #[true, true, true, true, true, false, false, false, false, false, false, false, false, false, false, false] rfl rfl (any_of HT_.out (by kernel_rfl)) (fun _ _ _ h => h) (Or.inl ⟨by rfl, ?_⟩) ?_ ?_
                rotate_left
                · intro w'
                  go_simp
                  with_reducible rfl
                rotate_left
                · simp only [Act.put, List.setIfInBounds_toArray, List.set_cons_zero, List.set_cons_succ, i64_w, i32_w]
                  rfl
                refine pure_ (i := 5) (N := some 19) (v := ?_) (a' := ?_) #[true, true, true, true, true, true, false, false, false, false, false, false, false, false, false, false] rfl rfl (any_of HT_.out (by kernel_rfl)) (fun _ _ _ h => h) (Or.inl ⟨by rfl, ?_⟩) ?_ ?_
                rotate_left
                · intro w'
                  go_simp
                  with_reducible rfl
                rotate_left
                · simp only [Act.put, List.setIfInBounds_toArray, List.set_cons_zero, List.set_cons_succ, i64_w, i32_w]
                  rfl
                refine pure_ (i := 6) (N := some 20) (v := ?_) (a' := ?_) #[true, true, true, true, true, true, true, false, false, false, false, false, false, false, false, false] rfl rfl (any_of HT_.out (by kernel_rfl)) (fun _ _ _ h => h) (Or.inl ⟨by rfl, ?_⟩) ?_ ?_
                rotate_left
                · intro w'
                  go_simp
                  with_reducible rfl
                rotate_left
                · simp only [Act.put, List.setIfInBounds_toArray, List.set_cons_zero, List.set_cons_succ, i64_w, i32_w]
                  rfl
                refine pure_ (i := 8) (N := some 22) (v := ?_) (a' := ?_) #[true, true, true, true, true, true, true, false, true, false, false, false, false, false, false, false] rfl rfl (any_of HT_.out (by kernel_rfl)) (fun _ _ _ h => h) (Or.inl ⟨by rfl, ?_⟩) ?_ ?_
                rotate_left
                · intro w'
                  go_simp
                  with_reducible rfl
                rotate_left
                · simp only [Act.put, List.setIfInBounds_toArray, List.set_cons_zero, List.set_cons_succ, i64_w, i32_w]
                  rfl
                refine pure_ (i := 9) (N := some 23) (v := ?_) (a' := ?_) #[true, true, true, true, true, true, true, false, true, true, false, false, false, false, false, false] rfl rfl (any_of HT_.out (by kernel_rfl)) (fun _ _ _ h => h) (Or.inl ⟨by rfl, ?_⟩) ?_ ?_
                rotate_left
                · intro w'
                  go_simp
                  with_reducible rfl
                rotate_left
                · simp only [Act.put, List.setIfInBounds_toArray, List.set_cons_zero, List.set_cons_succ, i64_w, i32_w]
                  rfl
                refine pure_ (i := 10) (N := some 24) (v := ?_) (a' := ?_) #[true, true, true, true, true, true, true, false, true, true, true, false, false, false, false, false] rfl rfl (any_of HT_.out (by kernel_rfl)) (fun _ _ _ h => h) (Or.inl ⟨by rfl, ?_⟩) ?_ ?_
                rotate_left
                · intro w'
                  go_simp
                  with_reducible rfl
                rotate_left
                · simp only [Act.put, List.setIfInBounds_toArray, List.set_cons_zero, List.set_cons_succ, i64_w, i32_w]
                  rfl
                refine take_ (i := 7) (N := some 21) (v := ?_) (a' := ?_) #[true, true, true, true, true, true, true, true, true, true, true, false, false, false, false, false] rfl rfl (take_ofW HT_.out HW_.out (by kernel_rfl)) (fun _ _ _ h => h) (Or.inl ⟨by rfl, ?_⟩) hHeld ?_ ?_
                rotate_left
                · rintro w' ⟨s0, s1⟩
                  go_simp
                  with_reducible rfl
                rotate_left
                · simp only [Act.put, List.setIfInBounds_toArray, List.set_cons_zero, List.set_cons_succ, i64_w, i32_w]
                  rfl
                refine take_ (i := 11) (N := some 25) (v := ?_) (a' := ?_) #[true, true, true, true, true, true, true, true, true, true, true, true, false, false, false, false] rfl rfl (take_ofW HT_.out HW_.out (by kernel_rfl)) (fun _ _ _ h => h) (Or.inl ⟨by rfl, ?_⟩) hHeld ?_ ?_
                rotate_left
                · rintro w' ⟨s0, s1⟩
                  go_simp
                  with_reducible rfl
                rotate_left
                · simp only [Act.put, List.setIfInBounds_toArray, List.set_cons_zero, List.set_cons_succ, i64_w, i32_w]
                  rfl
                refine pure_ (i := 12) (N := some 26) (v := ?_) (a' := ?_) #[true, true, true, true, true, true, true, true, true, true, true, true, true, false, false, false] rfl rfl (any_of HT_.out (by kernel_rfl)) (fun _ _ _ h => h) (Or.inl ⟨by rfl, ?_⟩) ?_ ?_
                rotate_left
                · intro w'
                  go_simp
                  with_reducible rfl
                rotate_left
                · simp only [Act.put, List.setIfInBounds_toArray, List.set_cons_zero, List.set_cons_succ, i64_w, i32_w]
                  rfl
                refine last_ (i := 13) (N := none) #[true, true, true, true, true, true, true, true, true, true, true, true, true, true, false, false] rfl rfl (one_of HT_.out (by kernel_rfl)) (by decide) (fun K hK => ?_)
                refine skip_ (w1 := ?_) (by rfl) rfl ?_ ?_
                rotate_left
                · go_simp
                  rfl
                refine hK.out _ _ ?_
                clear hK K
                refine pure_ (i := 14) (N := some 27) (v := ?_) (a' := ?_) #[true, true, true, true, true, true, true, true, true, true, true, true, true, true, true, false] rfl rfl (any_of HT_.out (by kernel_rfl)) (fun _ _ _ h => h) (Or.inl ⟨by rfl, ?_⟩) ?_ ?_
                rotate_left
                · intro w'
                  go_simp
                  with_reducible rfl
                rotate_left
                · simp only [Act.put, List.setIfInBounds_toArray, List.set_cons_zero, List.set_cons_succ, i64_w, i32_w]
                  rfl
                refine last_ (i := 15) (N := none) #[true, true, true, true, true, true, true, true, true, true, true, true, true, true, true, true] rfl rfl (one_of HT_.out (by kernel_rfl)) (by decide) (fun K hK => ?_)
                refine skip_ (w1 := ?_) (by rfl) rfl ?_ ?_
                rotate_left
                · go_simp
                  rfl
                refine hK.out _ _ ?_
                clear hK K
                refine done_ (done_of HT_.out (by kernel_rfl)) ?_
                try go_wp2
                (try simp only [← hl0_1])
                go_roundg k1
                case measure => have := HK1.out; omega
                case rel => exact ⟨(y237), (wrap64 (x2_1 + 1)), (wrap64 (x3_1 - 1)), (by first | rfl | (simp; done) | (simp [*]; done)), (by first | rfl | (simp; done) | (simp [*]; done)), H', ⟨by have := HK1.out; omega⟩, ⟨by (try simp only [hl0_1]); (with_reducible repeat (first | apply Kd.R_alloc | apply Kd.R_drewN | apply Kd.R_drew)); exact HQ12.out⟩, ⟨by repeat (first | (with_reducible first | exact HK.out | apply Kept.alloc | apply Kept.drewN | apply Kept.drew | refine Kept.setCell ?_ HMgo8.out _ | refine Kept.setCell ?_ HMgo8.out _) | exact HK.out)⟩, ⟨by repeat (first | (with_reducible first | exact HB.out | apply below_alloc | apply pw_below_drewN | apply below_drew1 | refine below_set ?_ GB8.out | refine below_set ?_ GB8.out) | exact HB.out)⟩⟩
              · rw [if_neg c7] at H
                exact absurd H (by simp)
            · rw [if_neg c6] at H
              exact absurd H (by simp)
          · rw [if_neg c5] at H
            exact absurd H (by simp)
        · rw [if_neg c4] at H
          exact absurd H (by simp)
      · rw [if_neg c3] at H
        have c3b0 : decide (x2_1 < x3_1) = false := decide_eq_false c3
        clear c3
        obtain rfl := Option.some.inj H
        go_wp2
        first | go_end0 | ((try simp only [Exit.inBlock, Exit.then]); refine bodyPost_ret (results_none rfl _ _ _) rfl ?_)
        exact ⟨by first | rfl | (simp [errW_none, errW_some] <;> rfl) | (simp [*, errW_none, errW_some] <;> rfl), (by first | exact (by (with_reducible repeat (first | apply Kd.R_alloc | apply Kd.R_drewN | apply Kd.R_drew)); exact HO_0.out) | (simp only [hl0_1]; exact (by (with_reducible repeat (first | apply Kd.R_alloc | apply Kd.R_drewN | apply Kd.R_drew)); exact HO_0.out))), by repeat (first | (with_reducible first | exact HB.out | apply below_alloc | apply pw_below_drewN | apply below_drew1) | exact HB.out), by repeat (first | (with_reducible first | exact HK.out | apply Kept.alloc | apply Kept.drewN | apply Kept.drew) | exact HK.out)⟩

/-! ### impl_PathFrom: function 28 -/
theorem zero3 (w : World) : (zeroValue 3).run Try.prog w = .ok (.int .i64 0) w := by rfl
theorem wf_small {x : Int} (h0 : -1 ≤ x) (h1 : x < 1000000) : (Lit.int .i64 x).wf = true := by
  simp [Lit.wf, IntKind.min, IntKind.max, IntKind.signed, IntKind.bits]
  omega
def PMapIs (W : World) (bm : Nat) (had : List Bool) (frm : List Int) (m : Nat) : Prop :=
  ∃ (n : Nat) (D : DataW Unit), W.ownsMap Try.prog 3 (plainElem Try.prog 3) bm n D ∧ n ≤ m ∧ Maps.IsMap D ∧ ∀ o, (Lit.int .i64 o).wf = true → Maps.has D (.int .i64 o) = (decide (0 ≤ o) && rdOf false had o) ∧ (0 ≤ o → rdOf false had o = true → D.atKey (.int .i64 o) (.lit (.int .i64 0)) = .lit (.int .i64 (rd frm o)))
theorem pmap_made (W : World) (N : Nat) : PMapIs (W.alloc (.map #[] 0)) W.heap.size (List.replicate N false) (List.replicate N 0) 0 :=
  ⟨0, .map [], World.ownsMap_made W _ _ _, Nat.le_refl _, Maps.isMap_empty, fun o _ => by
    have : rdOf false (List.replicate N false) o = false := by
      simp only [rdOf, List.getD_eq_getElem?_getD, List.getElem?_replicate]
      split <;> rfl
    rw [this]
    exact ⟨by simp [Maps.has_eq], fun _ h => by cases h⟩⟩
theorem PMapIs.kept {W W' : World} {bm m : Nat} {had : List Bool} {frm : List Int} {row : Option Nat} (h : PMapIs W bm had frm m) (hg : W.grownBy W' row) (hne : some bm ≠ row) : PMapIs W' bm had frm m := by
  obtain ⟨n, D, h, h2⟩ := h
  exact ⟨n, D, h.kept hg hne, h2⟩
theorem PMapIs.below {W W' : World} {bm m : Nat} {had : List Bool} {frm : List Int} (h : PMapIs W bm had frm m) (hb : Below W.heap.size W W') : PMapIs W' bm had frm m :=
  h.kept (grown_of_below hb none) (by simp)
theorem PMapIs.set {W : World} {bm g j m : Nat} {v : Value} {had : List Bool} {frm : List Int} (h : PMapIs W bm had frm m) (hne : g ≠ bm) : PMapIs (W.setCell ⟨g, j, none⟩ v) bm had frm m := by
  obtain ⟨n, D, ⟨es, clock, hb, h1⟩, h2⟩ := h
  exact ⟨n, D, ⟨es, clock, (Below.heap_setCell W ⟨g, j, none⟩ v bm (fun e => hne e.symm)).trans hb, h1⟩, h2⟩
theorem PMapIs.block {W : World} {bm m : Nat} {had : List Bool} {frm : List Int} (h : PMapIs W bm had frm m) : ∃ es clock, W.heap[bm]? = some (.map es clock) := by
  obtain ⟨_, _, ⟨es, clock, hb, _⟩, _⟩ := h
  exact ⟨es, clock, hb⟩
theorem map_ne {W : World} {bm m g t : Nat} {cs : Array Value} {had : List Bool} {frm : List Int} (h : PMapIs W bm had frm m) (hg : W.heap[g]? = some (.cells cs t (0, 0))) : g ≠ bm := by
  rintro rfl
  obtain ⟨es, clock, hb⟩ := h.block
  rw [hb] at hg
  cases hg
theorem map_row {W : World} {bm m : Nat} {had : List Bool} {frm : List Int} {v : Value} {e : TypeId} (h : PMapIs W bm had frm m) (ht : ∀ k, v.ownBlock = some k → ∃ cells, W.heap[k]? = some (.cells cells e (0, 0))) : some bm ≠ v.ownBlock := by
  intro he
  obtain ⟨cells, hc⟩ := ht bm he.symm
  exact map_ne h hc rfl
theorem rdOf_set {α : Type} (d : α) (l : List α) (x o : Int) (v : α) (h0 : 0 ≤ x) (h1 : x < (l.length : Int)) (ho : 0 ≤ o) : rdOf d (l.set x.toNat v) o = if o = x then v else rdOf d l o := by
  have hx : x.toNat < l.length := by omega
  by_cases h : o = x
  · subst h
    rw [if_pos rfl]
    simp [rdOf, hx]
  · rw [if_neg h]
    have : x.toNat ≠ o.toNat := by omega
    simp [rdOf, List.getElem?_set_ne this]
theorem pmap_put {W : World} {bm n m : Nat} {had : List Bool} {frm : List Int} {D : DataW Unit} {x b : Int} (hn : n ≤ m) (hm : Maps.IsMap D) (hat : ∀ o, (Lit.int .i64 o).wf = true → Maps.has D (.int .i64 o) = (decide (0 ≤ o) && rdOf false had o) ∧ (0 ≤ o → rdOf false had o = true → D.atKey (.int .i64 o) (.lit (.int .i64 0)) = .lit (.int .i64 (rd frm o))))
    (h0 : 0 ≤ x) (h1 : x < (had.length : Int)) (h2 : frm.length = had.length) (hown : W.ownsMap Try.prog 3 (plainElem Try.prog 3) bm (n + 1) (D.put (.int .i64 x) (.lit (.int .i64 b)))) : PMapIs W bm (had.set x.toNat true) (frm.set x.toNat b) (m + 1) := by
  refine ⟨n + 1, _, hown, by omega, hm.put _ _, fun o ho => ?_⟩
  by_cases g : o = x
  · subst g
    refine ⟨?_, fun _ _ => ?_⟩
    · rw [Maps.has_put_same hm (by trivial), rdOf_set false had o o true h0 h1 h0, if_pos rfl, decide_eq_true h0]
      rfl
    · rw [Maps.atKey_put_same hm (by trivial)]
      have : rd (frm.set o.toNat b) o = b := by
        have hx : o.toNat < frm.length := by omega
        simp [rd, hx]
      rw [this]
  · have hne : Lit.int .i64 o ≠ Lit.int .i64 x := fun h => g (by injection h)
    obtain ⟨e1, e2⟩ := hat o ho
    refine ⟨?_, fun p0 p1 => ?_⟩
    · rw [Maps.has_put_other hne, e1]
      by_cases p0 : 0 ≤ o
      · rw [rdOf_set false had x o true h0 h1 p0, if_neg g]
      · rw [decide_eq_false p0, Bool.false_and, Bool.false_and]
    · rw [rdOf_set false had x o true h0 h1 p0, if_neg g] at p1
      rw [Maps.atKey_put_other hne, e2 p0 p1]
      have hxo : x.toNat ≠ o.toNat := by omega
      have : rd (frm.set x.toNat b) o = rd frm o := by simp [rd, List.getElem?_set_ne hxo]
      rw [this]
theorem R_mapped {α : Type} {d : Kd α} {e base : Nat} {ok : Nat → Prop} {W w1 : World} {v : Value} {xs : List α} {bm m : Nat} {had : List Bool} {frm : List Int} (h : d.R e W base ok v xs) (hm : PMapIs W bm had frm m) (hg : W.grownBy w1 (some bm)) : d.R e w1 base ok v xs := by
  refine Kd.R_mono (Kd.R_move (Kd.R_bound h) (fun k hk => hg.block k hk.2.2.1 (fun he => ?_))) (fun _ hk => hk.1)
  injection he with he
  subst he
  obtain ⟨_, _, _, q, hq, cells, hc⟩ := hk
  exact map_ne hm hc rfl
theorem path_lookup {ops : Array Oper} {rest : List Oper} {o : Oper} {a : Act} {Q : Exit → Act → World → Prop} (w : World) (hg : o.guard = none) (m x : Operand) (hop : o.op = Op.lookup 65 m x true) (bm n : Nat) (D : DataW Unit)
    (hm : a.eval m = .map (some bm)) (hown : w.ownsMap Try.prog 3 (plainElem Try.prog 3) bm n D) (key : Int) (hx : a.eval x = .int .i64 key) (hw : (Lit.int .i64 key).wf = true) (bb : Bool) (hb : Maps.has D (.int .i64 key) = bb)
    (hK : ∀ c : Int, wpList Try.prog ops Q rest (a.put o.dst (.tuple #[.int .i64 c, .bool bb])) w) : wpList Try.prog ops Q (o :: rest) a w := by
  subst hb
  exact wpList_lookup_own_ok_int w hg m x 65 hop 3 3 .i64 (Maps.int_keyed Try.underlying3) Try.underlying65 Try.underlying3 (zero3 _) bm n D hm hown _ _ hx (Maps.keyOf_int_mk Try.underlying3 hw) (fun c _ _ => hK c)
theorem path_back {ops : Array Oper} {rest : List Oper} {o : Oper} {a : Act} {Q : Exit → Act → World → Prop} (w : World) (hg : o.guard = none) (m x : Operand) (hop : o.op = Op.lookup 65 m x false) (bm n : Nat) (D : DataW Unit)
    (hm : a.eval m = .map (some bm)) (hown : w.ownsMap Try.prog 3 (plainElem Try.prog 3) bm n D) (key : Int) (hx : a.eval x = .int .i64 key) (hw : (Lit.int .i64 key).wf = true) (v : Int) (hv : D.atKey (.int .i64 key) (.lit (.int .i64 0)) = .lit (.int .i64 v))
    (hK : wpList Try.prog ops Q rest (a.put o.dst (.int .i64 v)) w) : wpList Try.prog ops Q (o :: rest) a w :=
  wpList_lookup_own_int w hg m x 65 hop 3 3 .i64 (Maps.int_keyed Try.underlying3) Try.underlying65 Try.underlying3 (zero3 _) bm n D hm hown _ _ hx (Maps.keyOf_int_mk Try.underlying3 hw) (fun c hc _ => by
    rw [hv] at hc
    injection hc with hc
    injection hc with _ hc
    subst hc
    exact hK)
theorem path_made {ops : Array Oper} {rest : List Oper} {o : Oper} {a : Act} {Q : Exit → Act → World → Prop} {W : World} (hgd : o.guard = none) (ho : o.op = .makeMap 65 none) (N : Nat)
    (h : ∀ g, g = W.heap.size → ∀ w1, PMapIs w1 g (List.replicate N false) (List.replicate N 0) 0 → Below W.heap.size W w1 → w1.heap.size = W.heap.size + 1 → wpList Try.prog ops Q rest (a.put o.dst (.map (some g))) w1) : wpList Try.prog ops Q (o :: rest) a W :=
  Kd.event_run hgd (v := .map (some W.heap.size)) (w1 := W.alloc (.map #[] 0)) (by unfold execOp; rw [ho]; rfl) (h _ rfl _ (pmap_made W N) (below_alloc (Below.refl _ _) _) (by simp))

abbrev PS := List Bool × List Int × List Int
def pstep (b : Int) (s : PS) (n : Int) : PS := if 0 ≤ n ∧ rdOf false s.1 n = false then (s.1.set n.toNat true, s.2.1.set n.toNat b, s.2.2 ++ [n]) else s
structure PInv (w0 W : World) (b1 b2 bm : Nat) (vo : Value) (s : PS) : Prop where
  below : Below w0.heap.size w0 W
  g1 : w0.heap.size ≤ b1
  g2 : w0.heap.size ≤ b2
  gm : w0.heap.size ≤ bm
  k1 : W.heap[b1]? = some (.cells #[.map (some bm)] 65 (0, 0))
  k2 : W.heap[b2]? = some (.cells #[vo] 24 (0, 0))
  mp : PMapIs W bm s.1 s.2.1 s.2.2.length
  ro : Kd.R (Kd.int .i64) 3 W w0.heap.size (fun _ => True) vo s.2.2
theorem pinv_step {w0 W W' : World} {b1 b2 bm : Nat} {vo : Value} {s : PS} (h : PInv w0 W b1 b2 bm vo s) (hb : Below W.heap.size W W') : PInv w0 W' b1 b2 bm vo s :=
  ⟨below_step h.below hb, h.g1, h.g2, h.gm, blk_below h.k1 hb, blk_below h.k2 hb, h.mp.below hb, Kd.R_below h.ro hb⟩
theorem pmeet_len (b : Int) (l : List Int) : ∀ s : PS, (l.foldl (pstep b) s).1.length = s.1.length ∧ (l.foldl (pstep b) s).2.1.length = s.2.1.length ∧ (l.foldl (pstep b) s).2.2.length ≤ s.2.2.length + l.length := by
  induction l with
  | nil => intro s; exact ⟨rfl, rfl, Nat.le_refl _⟩
  | cons n r ih =>
    intro s
    have h := ih (pstep b s n)
    have h2 : (pstep b s n).1.length = s.1.length ∧ (pstep b s n).2.1.length = s.2.1.length ∧ (pstep b s n).2.2.length ≤ s.2.2.length + 1 := by
      unfold pstep
      split
      · simp
      · exact ⟨rfl, rfl, Nat.le_succ _⟩
    exact ⟨h.1.trans h2.1, h.2.1.trans h2.2.1, by simp only [List.foldl_cons, List.length_cons]; omega⟩
theorem pfold_snoc (b : Int) (l : List Int) (i : Nat) (h : i < l.length) (s : PS) : (l.take (i + 1)).foldl (pstep b) s = pstep b ((l.take i).foldl (pstep b) s) l[i] := by
  have e : l.take (i + 1) = l.take i ++ [l[i]] := by
    rw [List.take_add_one, List.getElem?_eq_getElem h]
    rfl
  rw [e, List.foldl_append]
  rfl
set_option maxHeartbeats 8000000 in
set_option maxRecDepth 100000 in
theorem pmeet_calls (A : Option Addr) (c : Nat) (l : List Int) (w0 W : World) (b1 b2 bm : Nat) (b : Int) (s0 : PS) (hl : Kd.C (Kd.int .i64) w0 A l.length l) (hn : ∀ n ∈ l, -1 ≤ n ∧ n < (s0.1.length : Int)) (hf : s0.2.1.length = s0.1.length) (hN : s0.1.length ≤ 1000) (hb : (Lit.int .i64 b).wf = true) (hsz : s0.2.2.length + l.length ≤ 1099511627776) (inv : ∃ vo, PInv w0 W b1 b2 bm vo s0) :
    Calls Try.prog 49 #[.slice A l.length c, .int .i64 b, .pointer (some ⟨b1, 0, none⟩), .pointer (some ⟨b2, 0, none⟩)] W fun e w' => e = .returned (.tuple #[]) ∧ ∃ vo, PInv w0 w' b1 b2 bm vo (l.foldl (pstep b) s0) := by
  have HL := Aside0.mk hl
  have HN := Aside0.mk hn
  have HI := Aside0.mk inv
  have HZ := Aside0.mk hsz
  have HF := Aside0.mk hf
  have HM := Aside0.mk hN
  have HWB := Aside0.mk hb
  clear hl hn inv hsz hf hN hb
  go_enter Try.func49, Try.ntmps49
  go_wp2
  go_loopg [12] l.length (fun gg v12 wr => ∃ i : Nat, i ≤ l.length ∧ l.length - i ≤ gg ∧ v12 = .int .i64 (i : Int) ∧ Aside0 (∃ vo, PInv w0 wr b1 b2 bm vo ((l.take i).foldl (pstep b) s0)))
  case atStart => exact ⟨0, Nat.zero_le _, by omega, rfl, HI⟩
  case round =>
    obtain ⟨i, hi, hgg, rfl, HR⟩ := hrel
    by_cases hlt : i < l.length
    · have hltz : (i : Int) < (l.length : Int) := by omega
      have hsm : l.length ≤ 1099511627776 := by have := HZ.out; omega
      have hrd := Kd.reads_of_C (d := (0 : Int)) HL.out
      obtain ⟨a, rfl, _⟩ := hrd.at_ ((0 : Nat) : Int) (by omega) (by omega)
      have hcell : ∀ j, j < l.length → w0.cell? (a.add j) = some (.int .i64 (l.getD j 0)) := by
        intro j hj
        obtain ⟨ad, e, hx⟩ := hrd.at_ (j : Int) (by omega) (by omega)
        cases e
        simpa [rdOf] using hx
      obtain ⟨bb, off, rfl, hc⟩ := ints_at hcell (by omega)
      obtain ⟨vo, inv⟩ := HR.out
      have hx0 := hc i hlt
      have hx1 : wr.cell? ⟨bb, off + i, none⟩ = some (.int .i64 l[i]) := by
        rw [inv.below.cell (World.block_lt_of_cell? w0 _ hx0), hx0]
        simp [List.getD, hlt]
      have hfold := pfold_snoc b l i hlt s0
      have hlen := pmeet_len b (l.take i) s0
      have hin := HN.out _ (List.getElem_mem hlt)
      have hz := HZ.out
      have hlN := HM.out
      have hlF := HF.out
      have htl : (l.take i).length = i := by rw [List.length_take]; omega
      generalize l[i] = x at hx1 hfold hin
      generalize (l.take i).foldl (pstep b) s0 = s at inv hfold hlen
      obtain ⟨sn, sf, ot⟩ := s
      have hlen : sn.length = s0.1.length ∧ sf.length = s0.2.1.length ∧ ot.length ≤ s0.2.2.length + (l.take i).length := hlen
      have FS := Aside0.mk hfold
      have HWF := Aside0.mk (wf_small hin.1 (by omega : x < 1000000))
      have e1 : wr.cell? ⟨b1, 0, none⟩ = some (.map (some bm)) := (blk_cell inv.k1 0).trans rfl
      obtain ⟨nm, D, hown, hnm, hisM, hat⟩ := inv.mp
      have hnm : nm ≤ ot.length := hnm
      have hhas : Maps.has D (.int .i64 x) = (decide (0 ≤ x) && rdOf false sn x) := (hat x HWF.out).1
      have MO := Aside0.mk hown
      clear hfold hrd hcell hc hx0 HR
      by_cases h0 : 0 ≤ x
      · have g0 : decide (0 ≤ x) = true := decide_eq_true h0
        have hxs : x < (sn.length : Int) := by omega
        rw [g0, Bool.true_and] at hhas
        have HH := Aside0.mk hhas
        cases hb : rdOf false sn x with
        | true =>
          have hst : pstep b (sn, sf, ot) x = (sn, sf, ot) := by
            unfold pstep
            rw [if_neg (fun h => by rw [hb] at h; exact Bool.noConfusion h.2)]
          have FS := Aside0.mk (FS.out.trans hst)
          have INV := Aside0.mk inv
          have HH := Aside0.mk (HH.out.trans hb)
          clear hst inv hlen hz htl hin hi hown hnm hisM hat hhas hlN hlF
          go_wp2_with (at_lookup; refine path_lookup _ rfl _ _ rfl bm nm D rfl MO.out x rfl HWF.out true HH.out ?_; intro c_)
          go_roundg (l.length - (i + 1))
          case measure => omega
          case rel => exact ⟨i + 1, by omega, by omega, (by first | exact congrArg (Value.int .i64) (by unfold wrap64; omega) | exact congrArg (Value.int .i64) (by omega)), ⟨by rw [FS.out]; exact ⟨_, INV.out⟩⟩⟩
        | false =>
          have hst : pstep b (sn, sf, ot) x = (sn.set x.toNat true, sf.set x.toNat b, ot ++ [x]) := by
            unfold pstep
            rw [if_pos ⟨h0, hb⟩]
          have FS := Aside0.mk (FS.out.trans hst)
          have HH := Aside0.mk (HH.out.trans hb)
          have LO := Aside0.mk (show (ot.length + 1) * 8 ≤ 140737488355328 by omega)
          have HO := Aside0.mk inv.ro
          have K1 := Aside0.mk inv.k1
          have K2 := Aside0.mk inv.k2
          have HB := Aside0.mk inv.below
          have G1 := Aside0.mk inv.g1
          have G2 := Aside0.mk inv.g2
          have GM := Aside0.mk inv.gm
          have MP := Aside0.mk inv.mp
          have hput := fun W h => pmap_put (W := W) (bm := bm) (x := x) (b := b) hnm hisM hat h0 hxs (by omega) h
          have PUT := Aside0.mk hput
          have NM := Aside0.mk (show nm < maxLen by have : maxLen = 9223372036854775807 := rfl; omega)
          obtain ⟨Ao, co, eo⟩ := Kd.R_slice inv.ro
          subst eo
          have e2 : wr.cell? ⟨b2, 0, none⟩ = some (.slice Ao ot.length co) := (blk_cell inv.k2 0).trans rfl
          clear hst inv hlen hz htl hin hi hown hnm hisM hat hhas hlN hlF hput e2
          go_wp2_with (first
            | (at_lookup; refine path_lookup _ rfl _ _ rfl bm nm D rfl MO.out x rfl HWF.out false HH.out ?_; intro c_)
            | (at_mapUpdate; refine wpList_mapUpdate_own _ rfl _ _ _ 65 rfl 3 3 (Maps.int_keyed Try.underlying3) Try.underlying65 _ bm nm D rfl MO.out NM.out _ _ (.int .i64 x) rfl rfl (Maps.keyOf_int_mk Try.underlying3 HWF.out) (.lit (.int .i64 b)) [] (plainElem_int Try.underlying3 HWB.out) ?_; intro wu hown1 hgrow; have n0_ := Aside0.mk (pw_below_grown HB.out (some bm) HB.out.size hgrow (fun k_ hk_ => by cases hk_; exact GM.out)); have n1_ := Aside0.mk (PUT.out _ hown1); have n2_ := Aside0.mk (blk_grown K1.out hgrow (fun e_ => by injection e_ with e_; exact map_ne MP.out K1.out e_)); have n3_ := Aside0.mk (blk_grown K2.out hgrow (fun e_ => by injection e_ with e_; exact map_ne MP.out K2.out e_)); have n4_ := Aside0.mk (R_mapped HO.out MP.out hgrow); clear HB MP K1 K2 HO PUT hown1 hgrow; have HB := n0_; have MP := n1_; have K1 := n2_; have K2 := n3_; have HO := n4_; clear n0_ n1_ n2_ n3_ n4_; have e2 : wu.cell? ⟨b2, 0, none⟩ = some (.slice Ao ot.length co) := (blk_cell K2.out 0).trans rfl)
            | ((with_reducible refine gate_builtin (b := .append) (xs := #[.tmp 31, .tmp 33]) rfl ?_); at_builtin; refine Kd.R_append (Kd.int .i64) (w0 := w0) w0.heap.size rfl (.tmp 31) (.tmp 33) 24 3 (.int .i64 0) 8 rfl Try.underlying24 info3 rfl (by decide) (by omega) (.slice Ao ot.length co) ot x [.int .i64 x] (fun _ => True) (fun _ => False) rfl rfl rfl (fun _ hk => hk.elim) (fun _ _ => trivial) HO.out HB.out HB.out.size LO.out ?_; intro v27 w27 ho hb hg hat; have n0_ := Aside0.mk (MP.out.kept hg (map_row MP.out (Kd.R_typed HO.out))); have n1_ := Aside0.mk (blk_grown K1.out hg (Kd.R_ne HO.out K1.out (by decide))); have n2_ := Aside0.mk (blk_grown K2.out hg (Kd.R_ne HO.out K2.out (by decide))); clear MP HO K1 K2 HB; have MP := n0_; have K1 := n1_; have K2 := n2_; have HO := Aside0.mk ho; have HB := Aside0.mk hb; clear n0_ n1_ n2_ hg hb ho hat; have e3 : w27.cell? ⟨b2, 0, none⟩ = some (.slice Ao ot.length co) := (blk_cell K2.out 0).trans rfl; have e4 := blk_frozen K2.out 0; obtain ⟨A27, c27, ev27⟩ := Kd.R_slice HO.out; subst ev27)
            | ((with_reducible refine gate_store (t := 24) (p := 3) rfl ?_); refine store_event (t := 24) (p := 3) (v := ?vo_w28) (w1 := (w27.setCell ⟨b2, 0, none⟩ (.slice A27 (ot ++ [x]).length c27))) ?hg ?ho ?hn ?hr ?_; (case ho => rfl); (case hg => rfl); (case hn => rfl); (case hr => first | (go_simp; done) | (go_simp; rfl)); intro w28 hw; have n0_ := Aside0.mk (show PInv w0 w28 b1 b2 bm (.slice A27 (ot ++ [x]).length c27) (sn.set (x : Int).toNat true, sf.set (x : Int).toNat b, ot ++ [x]) from (by rw [hw]; exact ⟨below_set HB.out G2.out, G1.out, G2.out, GM.out, blk_far K1.out (blk_ne K1.out K2.out (by decide)) _, blk_put K2.out 0 _ rfl, (by have := MP.out.set (j := 0) (v := .slice A27 (ot ++ [x]).length c27) (map_ne MP.out K2.out); simpa using this), Kd.R_mono (Kd.R_far (p := ⟨b2, 0, none⟩) (Kd.R_types HO.out K2.out (by decide)) (fun _ hk => hk.2) _) (fun _ _ => trivial)⟩)); clear MP HO K1 K2 HB hw; have INV := n0_; clear n0_))
          go_roundg (l.length - (i + 1))
          case measure => omega
          case rel => exact ⟨i + 1, by omega, by omega, (by first | exact congrArg (Value.int .i64) (by unfold wrap64; omega) | exact congrArg (Value.int .i64) (by omega)), ⟨by rw [FS.out]; exact ⟨_, INV.out⟩⟩⟩
      · have g0 : decide (0 ≤ x) = false := decide_eq_false h0
        rw [g0, Bool.false_and] at hhas
        have HH := Aside0.mk hhas
        have hst : pstep b (sn, sf, ot) x = (sn, sf, ot) := by
          unfold pstep
          rw [if_neg (fun h => h0 h.1)]
        have FS := Aside0.mk (FS.out.trans hst)
        have INV := Aside0.mk inv
        clear hst inv hlen hz htl hin hi hown hnm hisM hat hhas hlN hlF h0
        go_wp2_with (at_lookup; refine path_lookup _ rfl _ _ rfl bm nm D rfl MO.out x rfl HWF.out false HH.out ?_; intro c_)
        go_roundg (l.length - (i + 1))
        case measure => omega
        case rel => exact ⟨i + 1, by omega, by omega, (by first | exact congrArg (Value.int .i64) (by unfold wrap64; omega) | exact congrArg (Value.int .i64) (by omega)), ⟨by rw [FS.out]; exact ⟨_, INV.out⟩⟩⟩
    · have hltz : ¬ (i : Int) < (l.length : Int) := by omega
      have HR' := Aside0.mk (show ∃ vo, PInv w0 wr b1 b2 bm vo (l.foldl (pstep b) s0) from (by have := HR.out; rwa [List.take_of_length_le (by omega)] at this))
      clear HR
      go_wp2
      go_end0
      exact ⟨rfl, HR'.out⟩

def pathLoop (l0 : List S50) : Nat → Int → PS → Option PS
  | 0, _, _ => none
  | k + 1, i, s => if i < (s.2.2.length : Int) then (if 0 ≤ rd s.2.2 i ∧ rd s.2.2 i < (l0.length : Int) ∧ s.2.2.length ≤ 1000 then pathLoop l0 k (wrap64 (i + 1)) ((rd_T50 l0 (rd s.2.2 i)).f0.foldl (pstep (rd s.2.2 i)) s) else none) else some s
def backLoop (s : PS) : Nat → List Int → Int → Option (List Int)
  | 0, _, _ => none
  | k + 1, o, n => if 0 ≤ n then (if n < (s.1.length : Int) ∧ rdOf false s.1 n = true ∧ o.length ≤ 1000 then backLoop s k (o ++ [n]) (rd s.2.1 n) else none) else some o
def pathOk (l0 : List S50) (row : List Int) : Bool := decide (l0.length ≤ 200) && ((decide (row.length ≤ 8) && row.all (fun n => decide (-1 ≤ n ∧ n < (l0.length : Int)))) && l0.all (fun x => decide (x.f0.length ≤ 4) && x.f0.all (fun n => decide (-1 ≤ n ∧ n < (l0.length : Int)))))
def impl_PathFrom.f (k : Nat) (l0 : List S50) (l1 : List (List Int)) (l2 : List Int) (a b : Int) : Option (List Int × Bool) := (impl_GraphOk.f k l0 l1 l2).bind fun g => if g = true ∧ 0 ≤ a ∧ a < (l1.length : Int) ∧ 0 ≤ b ∧ b < (l0.length : Int) then (if pathOk l0 (rd_L1 l1 a) = true then (pathLoop l0 k 0 ((rd_L1 l1 a).foldl (pstep (-1)) (List.replicate l0.length false, List.replicate l0.length 0, []))).bind fun s => (if rdOf false s.1 b = true then (backLoop s k [] b).bind fun o => (slices_Reverse_int_int.f k o).bind fun r => some (r, true) else some ([], false)) else none) else some ([], false)
structure PathFine (l0 : List S50) (row : List Int) : Prop where
  n0 : l0.length ≤ 200
  r1 : row.length ≤ 8 ∧ ∀ n ∈ row, -1 ≤ n ∧ n < (l0.length : Int)
  e1 : ∀ x ∈ l0, x.f0.length ≤ 4 ∧ ∀ n ∈ x.f0, -1 ≤ n ∧ n < (l0.length : Int)
theorem path_fine {l0 : List S50} {row : List Int} (h : pathOk l0 row = true) : PathFine l0 row := by
  simp only [pathOk, Bool.and_eq_true, decide_eq_true_eq, List.all_eq_true] at h
  obtain ⟨h0, ⟨h3, h4⟩, h5⟩ := h
  exact ⟨h0, ⟨h3, fun n hn => h4 n hn⟩, fun x hx => ⟨(h5 x hx).1, fun n hn => (h5 x hx).2 n hn⟩⟩
theorem pinv_first {w1 w4 : World} {bm N : Nat} (hb : Below w1.heap.size w1 w4) (hm : PMapIs w4 bm (List.replicate N false) (List.replicate N 0) 0) (hg : w1.heap.size ≤ bm) : ∃ vo, PInv w1 ((w4.alloc (.cells #[.map (some bm)] 65)).alloc (.cells #[.slice none 0 0] 24)) w4.heap.size (w4.heap.size + 1) bm vo (List.replicate N false, List.replicate N 0, []) := by
  have hz := hb.size
  have e : (w4.alloc (.cells #[.map (some bm)] 65)).heap.size = w4.heap.size + 1 := by simp
  refine ⟨.slice none 0 0, below_alloc (below_alloc hb _) _, hz, by omega, hg, blk_alloc (blk_new w4 _) _, ?_, ?_, Kd.R_nil _ _ _ _ _⟩
  · have h := blk_new (w4.alloc (.cells #[.map (some bm)] 65)) (.cells #[.slice none 0 0] 24)
    rwa [e] at h
  · exact (hm.below (below_alloc (Below.refl _ _) _)).below (below_alloc (Below.refl _ _) _)
structure BInv (w0 W : World) (b1 bm : Nat) (had : List Bool) (frm : List Int) (m : Nat) : Prop where
  below : Below w0.heap.size w0 W
  gm : w0.heap.size ≤ bm
  k1 : W.heap[b1]? = some (.cells #[.map (some bm)] 65 (0, 0))
  mp : PMapIs W bm had frm m
theorem binv_kept {w0 W W' : World} {b1 bm m : Nat} {had : List Bool} {frm : List Int} {v : Value} {xs : List Int} (h : BInv w0 W b1 bm had frm m) (hR : Kd.R (Kd.int .i64) 3 W w0.heap.size (fun _ => True) v xs) (hb : Below w0.heap.size w0 W') (hg : W.grownBy W' v.ownBlock) : BInv w0 W' b1 bm had frm m :=
  ⟨hb, h.gm, blk_grown h.k1 hg (Kd.R_ne hR h.k1 (by decide)), h.mp.kept hg (map_row h.mp (Kd.R_typed hR))⟩
theorem has_node (l0 : List S50) (l1 : List (List Int)) (l2 : List Int) (b : Int) : impl_Graph_hasNode.f l0 l1 l2 b = some (decide (0 ≤ b ∧ b < (l0.length : Int))) := by
  unfold impl_Graph_hasNode.f
  by_cases h : b ≥ 0
  · rw [if_pos h]
    exact congrArg some (decide_eq_decide.2 (by omega))
  · rw [if_neg h]
    exact congrArg some (decide_eq_false (by omega)).symm

set_option maxHeartbeats 8000000 in
set_option maxRecDepth 100000 in
theorem impl_PathFrom.calls (k : Nat) (A0_0 : Option Addr) (c0_0 : Nat) (l0_0 : List (S50)) (A0_1 : Option Addr) (c0_1 : Nat) (l0_1 : List (List Int)) (A0_2 : Option Addr) (c0_2 : Nat) (l0_2 : List Int) (a b : Int) (r1 : List Int) (r2 : Bool) (w : World) (hr0_0 : Kd.C k50 w A0_0 l0_0.length l0_0) (hc0_0 : l0_0.length ≤ c0_0) (hr0_1 : Kd.C (Kd.slice 3 (Kd.int .i64)) w A0_1 l0_1.length l0_1) (hc0_1 : l0_1.length ≤ c0_1) (hr0_2 : Kd.C (Kd.int .i64) w A0_2 l0_2.length l0_2) (hc0_2 : l0_2.length ≤ c0_2) (h : impl_PathFrom.f k l0_0 l0_1 l0_2 a b = some (r1, r2)) :
    Calls Try.prog 28 #[.agg #[.slice A0_0 l0_0.length c0_0, .slice A0_1 l0_1.length c0_1, .slice A0_2 l0_2.length c0_2], .int .i64 a, .int .i64 b] w fun e w' => ∃ v0_ : Value, e = .returned (.tuple #[v0_, .bool r2]) ∧ Kd.R (Kd.int .i64) 3 w' w.heap.size (fun _ => True) v0_ r1 ∧ Below w.heap.size w w' := by
  obtain ⟨g, Fg, h⟩ := Option.bind_eq_some_iff.1 h
  obtain ⟨w1, hw1⟩ : ∃ w1, w1 = w.alloc (.cells #[.slice A0_0 l0_0.length c0_0, .slice A0_1 l0_1.length c0_1, .slice A0_2 l0_2.length c0_2] 26) := ⟨_, rfl⟩
  have hs1 : w1.heap.size = w.heap.size + 1 := by rw [hw1]; simp
  have hbx : w1.heap[w.heap.size]? = some (.cells #[.slice A0_0 l0_0.length c0_0, .slice A0_1 l0_1.length c0_1, .slice A0_2 l0_2.length c0_2] 26 (0, 0)) := by rw [hw1]; exact blk_new w _
  have hb1 : Below w.heap.size w w1 := by rw [hw1]; exact below_alloc (Below.refl _ _) _
  have C0 := Kd.C_below hr0_0 hb1
  have C1 := Kd.C_below hr0_1 hb1
  have C2 := Kd.C_below hr0_2 hb1
  have cg := impl_GraphOk.calls k A0_0 c0_0 l0_0 A0_1 c0_1 l0_1 A0_2 c0_2 l0_2 g w1 C0 hc0_0 C1 hc0_1 C2 hc0_2 Fg
  have cn : ∀ W, Below w1.heap.size w1 W → Calls Try.prog 48 #[.agg #[.slice A0_0 l0_0.length c0_0, .slice A0_1 l0_1.length c0_1, .slice A0_2 l0_2.length c0_2], .int .i64 b] W fun e w' => e = .returned (.bool (decide (0 ≤ b ∧ b < (l0_0.length : Int)))) ∧ Below W.heap.size W w' :=
    fun W hW => impl_Graph_hasNode.calls A0_0 c0_0 l0_0 A0_1 c0_1 l0_1 A0_2 c0_2 l0_2 b _ W (Kd.C_below C0 hW) hc0_0 (Kd.C_below C1 hW) hc0_1 (Kd.C_below C2 hW) hc0_2 (has_node l0_0 l0_1 l0_2 b)
  have par : ∀ {W : World} (j : Nat), Below w1.heap.size w1 W → W.cell? ⟨w.heap.size, j, none⟩ = (#[.slice A0_0 l0_0.length c0_0, .slice A0_1 l0_1.length c0_1, .slice A0_2 l0_2.length c0_2] : Array Value)[j]? := fun j hb => (hb.cell (p := ⟨w.heap.size, j, none⟩) (by show w.heap.size < _; omega)).trans (blk_cell hbx j)
  have PAR := Aside0.mk @par
  have B1 := Aside0.mk hb1
  have HS1 := Aside0.mk hs1
  have HC0 := Aside0.mk C0
  have HC1 := Aside0.mk C1
  clear hr0_0 hr0_1 hr0_2 hc0_0 hc0_1 hc0_2 C0 C1 C2 Fg par
  by_cases hc : g = true ∧ 0 ≤ a ∧ a < (l0_1.length : Int) ∧ 0 ≤ b ∧ b < (l0_0.length : Int)
  · rw [if_pos hc] at h
    obtain ⟨rfl, ha0, ha1, hn0, hn1⟩ := hc
    have hok : pathOk l0_0 (rd_L1 l0_1 a) = true := by
      by_cases q : pathOk l0_0 (rd_L1 l0_1 a) = true
      · exact q
      · rw [if_neg q] at h
        cases h
    rw [if_pos hok] at h
    obtain ⟨s, FL, h⟩ := Option.bind_eq_some_iff.1 h
    have FN := Aside0.mk (path_fine hok)
    obtain ⟨ad, Ar, cr, e0, hx, hlr, hir⟩ := at_L1 HC1.out a ha0 ha1
    subst e0
    have hfr := FN.out.r1
    generalize rd_L1 l0_1 a = row at hx hir hfr FL
    clear hok hlr
    rw [show decide (0 ≤ b ∧ b < (l0_0.length : Int)) = true from decide_eq_true ⟨hn0, hn1⟩] at cn
    have CN := Aside0.mk cn
    have HH := Aside0.mk FL
    have HT := Aside0.mk h
    have HX := Aside0.mk hx
    have HIR := Aside0.mk hir
    have HFR := Aside0.mk hfr
    have d0 : decide (a < 0) = false := decide_eq_false (by omega)
    have d1 : decide ((l0_1.length : Int) ≤ a) = false := decide_eq_false (by omega)
    have p0 := eq_true ha0
    have p1 := eq_true ha1
    have HN0 := Aside0.mk hn0
    have HN1 := Aside0.mk hn1
    clear hb1 h hbx hs1 FL cn hx hir hfr ha0 ha1 hn0 hn1
    go_enter Try.func28, Try.ntmps28
    go_wp2_with (first
      | (go_at_call 16; rw [← hw1]; refine cg.mono ?_; rintro e w2 ⟨rfl, hb2⟩; have B2 := Aside0.mk hb2; have q0 := (PAR.out 0 hb2).trans (show _ = some (Value.slice A0_0 l0_0.length c0_0) from rfl); have q1 := (PAR.out 1 hb2).trans (show _ = some (Value.slice (some ad) l0_1.length c0_1) from rfl); have q2 := (PAR.out 2 hb2).trans (show _ = some (Value.slice A0_2 l0_2.length c0_2) from rfl); clear cg hb2)
      | (go_at_call 48; refine (CN.out w2 B2.out).mono ?_; rintro e w3 ⟨rfl, hb3⟩; have B3 := Aside0.mk (below_step B2.out hb3); clear hb3 q0 q1 q2)
      | ((with_reducible refine gate_dst (N := 36) rfl ?_); refine path_made rfl rfl l0_0.length ?_; intro bm hbm w4 hmp hb4 hs4; have B4 := Aside0.mk (below_step B3.out hb4); have INV := Aside0.mk (pinv_first B4.out hmp (by rw [hbm]; exact B3.out.size)); have hq1 : ∀ o o', ((w4.alloc o).alloc o').cell? ⟨w.heap.size, 1, none⟩ = some (.slice (some ad) l0_1.length c0_1) := fun o o' => Lib.cell?_alloc_some o' (Lib.cell?_alloc_some o ((PAR.out 1 B4.out).trans rfl)); have hq2 : ∀ o o', ((w4.alloc o).alloc o').cell? (ad.add a.toNat) = some (.slice Ar row.length cr) := fun o o' => Lib.cell?_alloc_some o' (Lib.cell?_alloc_some o ((B4.out.cell (World.block_lt_of_cell? w1 _ HX.out)).trans HX.out)); have hcall := pmeet_calls Ar cr row w1 _ _ _ bm (-1) (List.replicate l0_0.length false, List.replicate l0_0.length 0, []) HIR.out (fun n hn => by rw [List.length_replicate]; exact HFR.out.2 n hn) (by rw [List.length_replicate, List.length_replicate]) (by rw [List.length_replicate]; have := FN.out.n0; omega) rfl (by have := HFR.out.1; simp only [List.length_nil]; omega) INV.out; clear hmp hb4 hs4 hbm INV B4)
      | (go_at_call 49; refine hcall.mono ?_; rintro e w5 ⟨rfl, hinv⟩; have INV := Aside0.mk hinv; have ML := pmeet_len (-1) row (List.replicate l0_0.length false, List.replicate l0_0.length 0, []); have MA := Aside0.mk (And.intro (ML.1.trans List.length_replicate) (ML.2.1.trans List.length_replicate)); clear hcall hinv hq1 hq2 ML))
    go_loopg [11] k (fun kq v11 w' => ∃ (x11 : Int) (s2 : PS), v11 = .int .i64 x11 ∧ Aside0 (0 ≤ x11) ∧ Aside0 (pathLoop l0_0 kq x11 s2 = some s) ∧ Aside0 (s2.1.length = l0_0.length ∧ s2.2.1.length = l0_0.length) ∧ Aside0 (∃ vo, PInv w1 w' w4.heap.size (w4.heap.size + 1) bm vo s2))
    case atStart => exact ⟨0, _, rfl, ⟨Int.le_refl 0⟩, HH, MA, INV⟩
    case round =>
      clear HH MA INV
      obtain ⟨x11, ⟨sn, sf, ot⟩, rfl, P11, HL, ML, INV⟩ := hrel
      obtain ⟨vo, inv⟩ := INV.out
      obtain ⟨Ao, co, eo⟩ := Kd.R_slice inv.ro
      subst eo
      have hml : sn.length = l0_0.length ∧ sf.length = l0_0.length := ML.out
      have hn0 := FN.out.n0
      cases gk with
      | zero => exact absurd HL.out (by simp [pathLoop])
      | succ k1 =>
        have hH := HL.out
        simp only [pathLoop] at hH
        have e2 : wr.cell? ⟨w4.heap.size + 1, 0, none⟩ = some (.slice Ao ot.length co) := (blk_cell inv.k2 0).trans rfl
        by_cases c : x11 < (ot.length : Int)
        · rw [if_pos c] at hH
          by_cases c2 : 0 ≤ rd ot x11 ∧ rd ot x11 < (l0_0.length : Int) ∧ ot.length ≤ 1000
          · rw [if_pos c2] at hH
            obtain ⟨c3, c4, c5⟩ := c2
            have iro : Kd.R (Kd.int .i64) 3 wr w1.heap.size (fun _ => True) (.slice Ao ot.length co) ot := inv.ro
            obtain ⟨go, co2, eo2, gbo, glo, clo, HGo⟩ := Kd.R_form iro (by have := P11.out; omega)
            cases eo2
            obtain ⟨hoe, hof⟩ := Kd.R_celln 0 iro x11 P11.out c
            have hoe2 : wr.cell? ⟨go, x11.toNat, none⟩ = some (.int .i64 (rd ot x11)) := hoe
            obtain ⟨ad0, Ar0, cr0, A9, c9, e0, hx0, hx1, hlr, hir, _, _⟩ := at_T50 HC0.out (rd ot x11) c3 c4
            subst e0
            have hmem : rd_T50 l0_0 (rd ot x11) ∈ l0_0 := by
              have : (rd ot x11).toNat < l0_0.length := by omega
              have e9 : rd_T50 l0_0 (rd ot x11) = l0_0[(rd ot x11).toNat] := by simp [rd_T50, List.getD, this]
              rw [e9]
              exact List.getElem_mem _
            have hfin := FN.out.e1 _ hmem
            have ML2 := pmeet_len (rd ot x11) (rd_T50 l0_0 (rd ot x11)).f0 (sn, sf, ot)
            generalize rd_T50 l0_0 (rd ot x11) = nd at hx0 hir hfin hH ML2
            generalize rd ot x11 = y at hoe2 hx0 c3 c4 hH ML2
            have ex0 : wr.cell? (ad0.add (y.toNat * 2)) = some (.slice Ar0 nd.f0.length cr0) := (inv.below.cell (World.block_lt_of_cell? w1 _ hx0)).trans hx0
            have ex1 : wr.cell? ⟨w.heap.size, 0, none⟩ = some (.slice (some ad0) l0_0.length c0_0) := (PAR.out 0 inv.below).trans rfl
            have hcall : ∀ W, (∃ vo, PInv w1 W w4.heap.size (w4.heap.size + 1) bm vo (sn, sf, ot)) → _ := fun W hW => pmeet_calls Ar0 cr0 nd.f0 w1 W w4.heap.size (w4.heap.size + 1) bm y (sn, sf, ot) hir (fun n hn => ⟨(hfin.2 n hn).1, by show n < (sn.length : Int); rw [hml.1]; exact (hfin.2 n hn).2⟩) (hml.2.trans hml.1.symm) (by show sn.length ≤ 1000; omega) (wf_small (by omega) (by omega)) (by have h1 := hfin.1; show ot.length + nd.f0.length ≤ 1099511627776; omega) hW
            have IV := Aside0.mk inv
            have HH := Aside0.mk hH
            have MM := Aside0.mk (And.intro (ML2.1.trans hml.1) (ML2.2.1.trans hml.2))
            have p1 := eq_true c
            have p2 := eq_true c3
            have p3 := eq_true c4
            have p4 := eq_true P11.out
            have C5 := Aside0.mk c5
            have C1 := Aside0.mk c
            clear iro inv hH ML2 hfin hmem hoe hof gbo glo clo HGo c3 c4 c5 c hlr hx1 hx0 HL INV ML hml hn0
            go_wp2
            go_region_with (go_at_call 49; refine (hcall _ ⟨_, pinv_step IV.out (by repeat (first | exact Below.refl _ _ | apply below_drew1 | apply pw_below_drewN))⟩).mono ?_; rintro e w9 ⟨rfl, hinv⟩; have INV := Aside0.mk hinv; clear hcall hinv)
            all_goals
              go_wp2
              go_roundg k1
              case measure => omega
              case rel => exact ⟨_, _, rfl, ⟨by have h1 := P11.out; have h2 := C5.out; have h3 := C1.out; unfold wrap64; omega⟩, HH, MM, INV⟩
          · rw [if_neg c2] at hH
            cases hH
        · rw [if_neg c] at hH
          have p1 := eq_false c
          obtain rfl := Option.some.inj hH
          have hT := HT.out
          have hT : (if rdOf false sn b = true then (backLoop (sn, sf, ot) k [] b).bind fun o => (slices_Reverse_int_int.f k o).bind fun r => some (r, true) else some ([], false)) = some (r1, r2) := hT
          have BI := Aside0.mk (show BInv w1 wr w4.heap.size bm sn sf ot.length from ⟨inv.below, inv.gm, inv.k1, inv.mp⟩)
          obtain ⟨nm, D, hown, hnm, hisM, hat⟩ := inv.mp
          have hown : wr.ownsMap Try.prog 3 (plainElem Try.prog 3) bm nm D := hown
          have hbw := wf_small (by have := HN0.out; omega : -1 ≤ b) (by have := HN1.out; omega : b < 1000000)
          have hhas : Maps.has D (.int .i64 b) = rdOf false sn b := by
            have := (hat b hbw).1
            rwa [decide_eq_true HN0.out, Bool.true_and] at this
          have e1 : wr.cell? ⟨w4.heap.size, 0, none⟩ = some (.map (some bm)) := (blk_cell inv.k1 0).trans rfl
          have MO := Aside0.mk hown
          have HWB := Aside0.mk hbw
          have HML := Aside0.mk (And.intro hml.1 hn0)
          cases hb : rdOf false sn b with
          | false =>
            rw [hb, if_neg (by decide)] at hT
            have hT := Option.some.inj hT
            injection hT with h1 h2
            subst h1
            subst h2
            have HAS := Aside0.mk (hhas.trans hb)
            clear inv hH c HL INV ML HT hown hnm hisM hat hbw hhas hml hn0 hb h hT
            go_wp2_with (at_lookup; refine path_lookup _ rfl _ _ rfl bm nm D rfl MO.out b rfl HWB.out false HAS.out ?_; intro c_)
            go_ret2
            exact ⟨_, rfl, Kd.R_nil _ _ _ _ _, below_step B1.out BI.out.below⟩
          | true =>
            rw [hb, if_pos rfl] at hT
            obtain ⟨of_, FB, hT⟩ := Option.bind_eq_some_iff.1 hT
            obtain ⟨rv, FR, hT⟩ := Option.bind_eq_some_iff.1 hT
            have hT := Option.some.inj hT
            injection hT with h1 h2
            subst h1
            subst h2
            have HAS := Aside0.mk (hhas.trans hb)
            have HFB := Aside0.mk FB
            have HFR2 := Aside0.mk FR
            clear inv hH c HL INV ML HT hown hnm hisM hat hbw hhas hml hn0 hb h hT FB FR
            go_wp2_with (at_lookup; refine path_lookup _ rfl _ _ rfl bm nm D rfl MO.out b rfl HWB.out true HAS.out ?_; intro c_)
            clear e1 e2 p1
            go_loopg [14, 15] k (fun kq v14 v15 w' => ∃ (o : List Int) (n : Int), v15 = .int .i64 n ∧ Aside0 (backLoop (sn, sf, ot) kq o n = some of_) ∧ Aside0 (Kd.R (Kd.int .i64) 3 w' w1.heap.size (fun _ => True) v14 o) ∧ Aside0 (BInv w1 w' w4.heap.size bm sn sf ot.length))
            case atStart => exact ⟨[], b, rfl, HFB, ⟨Kd.R_nil _ _ _ _ _⟩, BI⟩
            case round =>
              clear HFB BI MO HAS
              obtain ⟨o, n, rfl, HL, HO, BI⟩ := hrel
              cases gk with
              | zero => exact absurd HL.out (by simp [backLoop])
              | succ k2 =>
                have hH := HL.out
                simp only [backLoop] at hH
                by_cases c : 0 ≤ n
                · rw [if_pos c] at hH
                  by_cases c2 : n < (sn.length : Int) ∧ rdOf false sn n = true ∧ o.length ≤ 1000
                  · rw [if_pos c2] at hH
                    obtain ⟨c3, c4, c5⟩ := c2
                    have hml := HML.out
                    have LO := Aside0.mk (show (o.length + 1) * 8 ≤ 140737488355328 by omega)
                    have HWN := Aside0.mk (wf_small (by omega : -1 ≤ n) (by omega : n < 1000000))
                    have C0 := Aside0.mk c
                    have C4 := Aside0.mk c4
                    have HH := Aside0.mk hH
                    have p1 := eq_true c
                    obtain ⟨Ao2, co2, eo⟩ := Kd.R_slice HO.out
                    subst eo
                    clear hH hml c c3 c4 c5 HL
                    go_wp2_with (first
                      | ((with_reducible refine gate_builtin (b := .append) (xs := #[.tmp 80, .tmp 82]) rfl ?_); at_builtin; refine Kd.R_append (Kd.int .i64) (w0 := w1) w1.heap.size rfl (.tmp 80) (.tmp 82) 24 3 (.int .i64 0) 8 rfl Try.underlying24 info3 rfl (by decide) (by omega) (.slice Ao2 o.length co2) o n [.int .i64 n] (fun _ => True) (fun _ => False) rfl rfl rfl (fun _ hk => hk.elim) (fun _ _ => trivial) HO.out BI.out.below BI.out.below.size LO.out ?_; intro v83 w83 ho hb hg hat; have n0_ := Aside0.mk (binv_kept BI.out HO.out hb hg); clear HO BI; have BI := n0_; have HO := Aside0.mk ho; clear n0_ hg hb ho hat; have e1 : w83.cell? ⟨w4.heap.size, 0, none⟩ = some (.map (some bm)) := (blk_cell BI.out.k1 0).trans rfl; obtain ⟨nm, D, hown, hnm, hisM, hat⟩ := BI.out.mp; have MO := Aside0.mk hown; have HAT := Aside0.mk ((hat n HWN.out).2 C0.out C4.out); clear hown hnm hisM hat)
                      | (at_lookup; refine path_back _ rfl _ _ rfl bm nm D rfl MO.out n rfl HWN.out (rd sf n) HAT.out ?_))
                    go_roundg k2
                    case measure => omega
                    case rel => exact ⟨_, _, rfl, HH, HO, BI⟩
                  · rw [if_neg c2] at hH
                    cases hH
                · rw [if_neg c] at hH
                  have p1 := eq_false c
                  obtain rfl := Option.some.inj hH
                  clear hH c HL
                  go_wp2_with (go_at_call 50; refine (slices_Reverse_int_int.calls k (fun _ => True) _ _ rv w1 wr BI.out.below HO.out HFR2.out).mono ?_; rintro e w8 ⟨rfl, hR, hB, _⟩; have HR8 := Aside0.mk hR; have HB8 := Aside0.mk hB; clear hR hB)
                  go_ret2
                  exact ⟨_, rfl, Kd.R_lower (Kd.R_mono HR8.out (fun _ _ => trivial)) B1.out.size, below_step B1.out HB8.out⟩
  · rw [if_neg hc] at h
    have h := Option.some.inj h
    injection h with h1 h2
    subst h1
    subst h2
    have CN := Aside0.mk cn
    clear cn
    by_cases c0 : g = true
    · subst c0
      by_cases ca : a < 0
      · have d0 : decide (a < 0) = true := decide_eq_true ca
        clear hc ca
        clear hb1 hbx hs1
        go_enter Try.func28, Try.ntmps28
        go_wp2_with (first
          | (go_at_call 16; rw [← hw1]; refine cg.mono ?_; rintro e w2 ⟨rfl, hb2⟩; have B2 := Aside0.mk hb2; have q0 := (PAR.out 0 hb2).trans (show _ = some (Value.slice A0_0 l0_0.length c0_0) from rfl); have q1 := (PAR.out 1 hb2).trans (show _ = some (Value.slice A0_1 l0_1.length c0_1) from rfl); have q2 := (PAR.out 2 hb2).trans (show _ = some (Value.slice A0_2 l0_2.length c0_2) from rfl); clear cg hb2)
          | (go_at_call 48; refine (CN.out w2 B2.out).mono ?_; rintro e w3 ⟨rfl, hb3⟩; have B3 := Aside0.mk (below_step B2.out hb3); clear hb3))
        go_ret2
        exact ⟨_, rfl, Kd.R_nil _ _ _ _ _, below_step B1.out (by first | exact B3.out | exact B2.out)⟩
      · have d0 : decide (a < 0) = false := decide_eq_false ca
        by_cases cb : (l0_1.length : Int) ≤ a
        · have d1 : decide ((l0_1.length : Int) ≤ a) = true := decide_eq_true cb
          clear hc ca cb
          clear hb1 hbx hs1
          go_enter Try.func28, Try.ntmps28
          go_wp2_with (first
            | (go_at_call 16; rw [← hw1]; refine cg.mono ?_; rintro e w2 ⟨rfl, hb2⟩; have B2 := Aside0.mk hb2; have q0 := (PAR.out 0 hb2).trans (show _ = some (Value.slice A0_0 l0_0.length c0_0) from rfl); have q1 := (PAR.out 1 hb2).trans (show _ = some (Value.slice A0_1 l0_1.length c0_1) from rfl); have q2 := (PAR.out 2 hb2).trans (show _ = some (Value.slice A0_2 l0_2.length c0_2) from rfl); clear cg hb2)
            | (go_at_call 48; refine (CN.out w2 B2.out).mono ?_; rintro e w3 ⟨rfl, hb3⟩; have B3 := Aside0.mk (below_step B2.out hb3); clear hb3))
          go_ret2
          exact ⟨_, rfl, Kd.R_nil _ _ _ _ _, below_step B1.out (by first | exact B3.out | exact B2.out)⟩
        · have d1 : decide ((l0_1.length : Int) ≤ a) = false := decide_eq_false cb
          have hf : decide (0 ≤ b ∧ b < (l0_0.length : Int)) = false := decide_eq_false (fun q => hc ⟨rfl, by omega, by omega, q⟩)
          have CN := Aside0.mk (show ∀ W, Below w1.heap.size w1 W → Calls Try.prog 48 #[.agg #[.slice A0_0 l0_0.length c0_0, .slice A0_1 l0_1.length c0_1, .slice A0_2 l0_2.length c0_2], .int .i64 b] W fun e w' => e = .returned (.bool false) ∧ Below W.heap.size W w' from fun W hW => by have := CN.out W hW; rwa [hf] at this)
          clear hc ca cb hf
          clear hb1 hbx hs1
          go_enter Try.func28, Try.ntmps28
          go_wp2_with (first
            | (go_at_call 16; rw [← hw1]; refine cg.mono ?_; rintro e w2 ⟨rfl, hb2⟩; have B2 := Aside0.mk hb2; have q0 := (PAR.out 0 hb2).trans (show _ = some (Value.slice A0_0 l0_0.length c0_0) from rfl); have q1 := (PAR.out 1 hb2).trans (show _ = some (Value.slice A0_1 l0_1.length c0_1) from rfl); have q2 := (PAR.out 2 hb2).trans (show _ = some (Value.slice A0_2 l0_2.length c0_2) from rfl); clear cg hb2)
            | (go_at_call 48; refine (CN.out w2 B2.out).mono ?_; rintro e w3 ⟨rfl, hb3⟩; have B3 := Aside0.mk (below_step B2.out hb3); clear hb3))
          go_ret2
          exact ⟨_, rfl, Kd.R_nil _ _ _ _ _, below_step B1.out (by first | exact B3.out | exact B2.out)⟩
    · replace c0 := Bool.eq_false_iff.mpr c0
      subst c0
      clear hc
      clear hb1 hbx hs1
      go_enter Try.func28, Try.ntmps28
      go_wp2_with (first
        | (go_at_call 16; rw [← hw1]; refine cg.mono ?_; rintro e w2 ⟨rfl, hb2⟩; have B2 := Aside0.mk hb2; have q0 := (PAR.out 0 hb2).trans (show _ = some (Value.slice A0_0 l0_0.length c0_0) from rfl); have q1 := (PAR.out 1 hb2).trans (show _ = some (Value.slice A0_1 l0_1.length c0_1) from rfl); have q2 := (PAR.out 2 hb2).trans (show _ = some (Value.slice A0_2 l0_2.length c0_2) from rfl); clear cg hb2)
        | (go_at_call 48; refine (CN.out w2 B2.out).mono ?_; rintro e w3 ⟨rfl, hb3⟩; have B3 := Aside0.mk (below_step B2.out hb3); clear hb3))
      go_ret2
      exact ⟨_, rfl, Kd.R_nil _ _ _ _ _, below_step B1.out (by first | exact B3.out | exact B2.out)⟩

end Go.Proofs.Ytdaikmojalfimaa.QFnExactPathFrom
