-- Written by a program of this session that drives the print of the kit, with contracts of its own beside the printed ones. Lean checks it.
import Derived.Test.YtdaikmojalfimaaQFnExactGraphNewx0
import Derived.Test.YtdaikmojalfimaaQFnExactGraphNewx1
import Derived.Test.YtdaikmojalfimaaQFnExactGraphNewx2
namespace Go.Proofs.Ytdaikmojalfimaa.QFnExactGraphNew
open Go.RowKit Go.Proofs.YtdaikmojalfimaaW.PrintWords Go.Proofs.YtdaikmojalfimaaW.PrintLast Go.Proofs.YtdaikmojalfimaaW.PrintMore
attribute [local go_sem] max2_int min2_int max_two min_two max_three min_three max_four min_four   -- for this text's walks alone
set_option linter.unusedVariables false
set_option linter.unusedSimpArgs false

/-! ### laws_markNodeS: function 32 -/
def laws_markNodeS.l0 : Nat → List S50 → Int → Int → Option (Int × List S50)
  | 0, _, _, _ => none
  | k + 1, x0, x1, x5 => if x5 < (x0.length : Int) then (if 0 ≤ x5 then ((laws_markIntS.f k ((rd_T50 x0 x5).f0) x1).bind fun bt => ((laws_markIntS.f k ((rd_T50 x0 x5).f1) bt.1).bind fun bu => (laws_markNodeS.l0 k (x0.set (x5 : Int).toNat ⟨bt.2, bu.2⟩) bu.1 (wrap64 (x5 + 1))))) else (none)) else (some (x1, x0))
def laws_markNodeS.f (k : Nat) (l0 : List S50) (a1 : Int) : Option (Int × List S50) := laws_markNodeS.l0 k l0 a1 0

theorem laws_markNodeS.mono_l : ∀ k, (∀ y0 y1 y2, LeO (laws_markNodeS.l0 k y0 y1 y2) (laws_markNodeS.l0 (k + 1) y0 y1 y2))
  | 0 => fun _ _ _ r h => by simp [laws_markNodeS.l0] at h
  | k + 1 => by
    have ih0 := laws_markNodeS.mono_l k
    have ih1 := laws_markIntS.mono
    · intro y0 y1 y2
      unfold laws_markNodeS.l0
      repeat' first
      | (with_reducible exact ih0 _ _ _)
      | (with_reducible exact ih1 _ _ _)
      | (with_reducible exact LeO.refl _)
      | (with_reducible exact LeO.none _)
      | (with_reducible refine LeO.ite ?_ ?_)
      | (with_reducible refine LeO.bind ?_ (fun _ => ?_))
      | exact ih0 _ _ _
      | exact LeO.none _
      | refine LeO.ite ?_ ?_
      | refine LeO.bind ?_ (fun _ => ?_)
theorem laws_markNodeS.mono : ∀ a0 a1 k, LeO (laws_markNodeS.f k a0 a1) (laws_markNodeS.f (k + 1) a0 a1) := fun a0 a1 k => laws_markNodeS.mono_l k a0 a1 0

set_option maxHeartbeats 8000000 in
set_option maxRecDepth 100000 in
theorem laws_markNodeS.calls (k : Nat) (P0_ : Nat → Prop) (u9000_ : Value) (l0 : List S50) (a1 : Int) (r1 : Int) (r2 : List S50) (w0 w : World) (hB : Below w0.heap.size w0 w) (ho0 : Kd.S k50 50 w w0.heap.size P0_ u9000_ l0) (h : laws_markNodeS.f k l0 a1 = some (r1, r2)) :
    Calls Try.prog 32 #[u9000_, .int .i64 a1] w fun e w' => e = .returned (.int .i64 r1) ∧ Kd.S k50 50 w' w0.heap.size (fun k_ => (P0_ k_ ∨ w.heap.size ≤ k_)) u9000_ r2 ∧ Below w0.heap.size w0 w' ∧ Kept w w' (fun k_ => P0_ k_) := by
  have HO0 := Aside0.mk (show Kd.S k50 50 w w0.heap.size (fun k_ => (P0_ k_ ∨ w.heap.size ≤ k_)) u9000_ l0 from Kd.S_mono ho0 (fun k_ hk => (.inl hk)))
  have HK := Aside0.mk (Kept.refl w (fun k_ => P0_ k_))
  have HB := Aside0.mk hB
  clear hB
  have H : (laws_markNodeS.l0 k l0 a1 0) = some (r1, r2) := h
  clear h
  have H' := Aside0.mk H
  clear H
  go_enter Try.func32, Try.ntmps32
  go_wp2
  go_loopg [1, 5] k (fun kq v1 v5 w' => ∃ (x0_1 : List S50) (x1_1 : Int) (x5_1 : Int), v1 = .int .i64 x1_1 ∧ v5 = .int .i64 x5_1 ∧ Aside0 (laws_markNodeS.l0 kq x0_1 x1_1 x5_1 = some (r1, r2)) ∧ Aside0 (kq ≤ k) ∧ Aside0 (Kd.S k50 50 w' w0.heap.size (fun k_ => (P0_ k_ ∨ w.heap.size ≤ k_)) u9000_ x0_1) ∧ Aside0 (Kept w w' (fun k_ => P0_ k_)) ∧ Aside0 (Below w0.heap.size w0 w'))
  case atStart => exact ⟨l0, a1, 0, rfl, rfl, H', ⟨Nat.le_refl _⟩, HO0, HK, HB⟩
  case round =>
    clear H'
    obtain ⟨x0_1, x1_1, x5_1, rfl, rfl, HA, HK1, HO_0, HK, HB⟩ := hrel
    cases gk with
    | zero => exact absurd HA.out (by simp [laws_markNodeS.l0])
    | succ k1 =>
      have H := HA.out
      clear HA
      simp only [laws_markNodeS.l0] at H
      obtain ⟨Ao6, co6, eo6⟩ := Kd.S_slice HO_0.out
      subst eo6
      by_cases c3 : x5_1 < (x0_1.length : Int)
      · rw [if_pos c3] at H
        by_cases c4 : 0 ≤ x5_1
        · rw [if_pos c4] at H
          obtain ⟨go5, co5, eo5, gb5, gl5, cl5, HG5⟩ := Kd.S_form HO_0.out (by omega)
          (first | cases eo5 | (injection eo5 with ea_ en_ ec_; (first | subst ea_ | (injection ea_ with ea_; subst ea_)); subst ec_; clear en_))

          obtain ⟨oki, ce, hcl, hM, hcc, hfr, hoki, hH⟩ := Kd.S_elem HO_0.out z50 x5_1 c4 c3
          obtain ⟨v7, v8, P7, P8, hap, rfl, hR7, hR8⟩ := k50_openA hM
          obtain ⟨A7, c7, rfl⟩ := Kd.R_slice hR7
          obtain ⟨A8, c8, rfl⟩ := Kd.R_slice hR8
          obtain ⟨⟨t1, t2⟩, F1, H⟩ := Option.bind_eq_some_iff.1 H
          obtain ⟨⟨t3, t4⟩, F2, H⟩ := Option.bind_eq_some_iff.1 H
          have F1 : laws_markIntS.f k1 (x0_1.getD x5_1.toNat z50).f0 x1_1 = some (t1, t2) := F1
          have F2 : laws_markIntS.f k1 (x0_1.getD x5_1.toNat z50).f1 t1 = some (t3, t4) := F2
          have H' := Aside0.mk H
          clear H
          generalize x0_1.getD x5_1.toNat z50 = y at hR7 hR8 hcc F1 F2 hH
          have hx5_0 : wr.cell? ⟨go5, (x5_1 : Int).toNat * 2, none⟩ = some (.slice A7 y.f0.length c7) := (show wr.cell? ⟨go5, (x5_1 : Int).toNat * 2 + 0, none⟩ = some _ from hcc 0 _ rfl)
          have hx5_1 : wr.cell? ⟨go5, (x5_1 : Int).toNat * 2 + 1, none⟩ = some (.slice A8 y.f1.length c8) := (show wr.cell? ⟨go5, (x5_1 : Int).toNat * 2 + 1, none⟩ = some _ from hcc 1 _ rfl)
          have hcall := laws_markIntS.calls k1 (fun k_ => oki k_ ∧ P7 k_) (.slice A7 y.f0.length c7) y.f0 x1_1 t1 t2 w0 wr HB.out hR7 F1
          have hcall2 : ∀ w8, Below w0.heap.size w0 w8 → Kept wr w8 (fun k_ => oki k_ ∧ P7 k_) → _ := fun w8 hb8 hk8 => laws_markIntS.calls k1 (fun k_ => oki k_ ∧ P8 k_) (.slice A8 y.f1.length c8) y.f1 t1 t3 t4 w0 w8 hb8 (Kd.R_kept hR8 hk8 (fun k_ h1 h2 => hap k_ h2.2 h1.2)) F2
          have hcell2 : ∀ w8, Kept wr w8 (fun k_ => oki k_ ∧ P7 k_) → w8.cell? ⟨go5, (x5_1 : Int).toNat * 2 + 1, none⟩ = some (.slice A8 y.f1.length c8) := fun w8 hk8 => by
            have he := hk8.2 go5 gl5 (fun h => (hoki go5 h.1).2 rfl)
            rw [← hx5_1]
            simp [World.cell?, he]
          have HR7 := Aside0.mk hR7
          have HR8 := Aside0.mk hR8
          have HAP := Aside0.mk hap
          have HH := Aside0.mk hH
          have HOK := Aside0.mk hoki
          have HC2 := Aside0.mk hcell2
          have c3b0 : decide (x5_1 < (x0_1.length : Int)) = true := decide_eq_true c3
          have c4b0 : decide (0 ≤ x5_1) = true := decide_eq_true c4
          have p5 := eq_true c4
          have q5 := eq_true c3
          have C2 := Aside0.mk hcall2
          clear hcc hfr hoki hH hR7 hR8 hap hcl F1 F2 c3 c4 hcell2 hx5_1 hcall2
          go_wp2_with (first | (go_at_call 25; refine hcall.mono ?_; rintro e w8 ⟨rfl, hS8, hB8, hK8⟩; have hc9 := C2.out w8 hB8 hK8; have hx8 := HC2.out w8 hK8; have HS8 := Aside0.mk hS8; have HB8 := Aside0.mk hB8; have HK8 := Aside0.mk hK8; clear hcall C2 HC2 hS8 hB8 hK8) | (go_at_call 25; refine hc9.mono ?_; rintro e w9 ⟨rfl, hS9, hB9, hK9⟩; have HS9 := Aside0.mk hS9; have HB9 := Aside0.mk hB9; have HK9 := Aside0.mk hK9; clear hc9 hS9 hB9 hK9))
          go_roundg k1
          case measure => have := HK1.out; omega
          case rel =>
            refine ⟨x0_1.set (x5_1 : Int).toNat ⟨t2, t4⟩, t3, wrap64 (x5_1 + 1), rfl, rfl, H', ⟨by have := HK1.out; omega⟩, ⟨?_⟩, ⟨Kept.then_ (Kept.then_ HK.out HK8.out (fun k_ hk => (HOK.out k_ hk.1).1)) HK9.out (fun k_ hk => (HOK.out k_ hk.1).1)⟩, HB9⟩
            have hA := Kd.R_kept (Kd.R_reok (ok := fun k_ => oki k_ ∧ P7 k_) rfl HS8.out (fun k_ hk => HR7.out.1 k_ hk)) HK9.out (fun k_ h1 h2 => HAP.out k_ h1.2 h2.2)
            have hB := Kd.R_reok (ok := fun k_ => oki k_ ∧ P8 k_) rfl HS9.out (fun k_ hk => HR8.out.1 k_ hk)
            have hM9 := k50_mkA w9 w0.heap.size oki (⟨t2, t4⟩ : S50) HAP.out hA hB
            have hH8 := Kd.H_kept HH.out HK8.out (fun _ _ h h2 => h h2.1)
            have hH9 := Kd.H_kept hH8 HK9.out (fun _ _ h h2 => h h2.1)
            exact Kd.H_back hH9 hM9 (fun _ hk => hk)

        · rw [if_neg c4] at H
          exact absurd H (by simp)
      · rw [if_neg c3] at H
        have c3b0 : decide (x5_1 < (x0_1.length : Int)) = false := decide_eq_false c3
        clear c3
        simp only [Option.some.injEq, Prod.mk.injEq] at H
        obtain ⟨rfl, rfl⟩ := H
        go_wp2
        go_ret
        exact ⟨rfl, HO_0.out, HB.out, HK.out⟩

/-! ### laws_markIntSS: function 33 -/
def laws_markIntSS.l0 : Nat → List (List Int) → Int → Int → Option (Int × List (List Int))
  | 0, _, _, _ => none
  | k + 1, x0, x1, x5 => if x5 < (x0.length : Int) then (if 0 ≤ x5 then ((laws_markIntS.f k (rd_L1 x0 x5) x1).bind fun bt => (laws_markIntSS.l0 k (x0.set (x5 : Int).toNat bt.2) bt.1 (wrap64 (x5 + 1)))) else (none)) else (some (x1, x0))
def laws_markIntSS.f (k : Nat) (l0 : List (List Int)) (a1 : Int) : Option (Int × List (List Int)) := laws_markIntSS.l0 k l0 a1 0

theorem laws_markIntSS.mono_l : ∀ k, (∀ y0 y1 y2, LeO (laws_markIntSS.l0 k y0 y1 y2) (laws_markIntSS.l0 (k + 1) y0 y1 y2))
  | 0 => fun _ _ _ r h => by simp [laws_markIntSS.l0] at h
  | k + 1 => by
    have ih0 := laws_markIntSS.mono_l k
    have ih1 := laws_markIntS.mono
    · intro y0 y1 y2
      unfold laws_markIntSS.l0
      repeat' first
      | (with_reducible exact ih0 _ _ _)
      | (with_reducible exact ih1 _ _ _)
      | (with_reducible exact LeO.refl _)
      | (with_reducible exact LeO.none _)
      | (with_reducible refine LeO.ite ?_ ?_)
      | (with_reducible refine LeO.bind ?_ (fun _ => ?_))
      | exact ih0 _ _ _
      | exact LeO.none _
      | refine LeO.ite ?_ ?_
      | refine LeO.bind ?_ (fun _ => ?_)
theorem laws_markIntSS.mono : ∀ a0 a1 k, LeO (laws_markIntSS.f k a0 a1) (laws_markIntSS.f (k + 1) a0 a1) := fun a0 a1 k => laws_markIntSS.mono_l k a0 a1 0

set_option maxHeartbeats 8000000 in
set_option maxRecDepth 100000 in
theorem laws_markIntSS.calls (k : Nat) (P0_ : Nat → Prop) (u9000_ : Value) (l0 : List (List Int)) (a1 : Int) (r1 : Int) (r2 : List (List Int)) (w0 w : World) (hB : Below w0.heap.size w0 w) (ho0 : Kd.S (Kd.slice 3 (Kd.int .i64)) 24 w w0.heap.size P0_ u9000_ l0) (h : laws_markIntSS.f k l0 a1 = some (r1, r2)) :
    Calls Try.prog 33 #[u9000_, .int .i64 a1] w fun e w' => e = .returned (.int .i64 r1) ∧ Kd.S (Kd.slice 3 (Kd.int .i64)) 24 w' w0.heap.size (fun k_ => (P0_ k_ ∨ w.heap.size ≤ k_)) u9000_ r2 ∧ Below w0.heap.size w0 w' ∧ Kept w w' (fun k_ => P0_ k_) := by
  have HO0 := Aside0.mk (show Kd.S (Kd.slice 3 (Kd.int .i64)) 24 w w0.heap.size (fun k_ => (P0_ k_ ∨ w.heap.size ≤ k_)) u9000_ l0 from Kd.S_mono ho0 (fun k_ hk => (.inl hk)))
  have HK := Aside0.mk (Kept.refl w (fun k_ => P0_ k_))
  have HB := Aside0.mk hB
  clear hB
  have H : (laws_markIntSS.l0 k l0 a1 0) = some (r1, r2) := h
  clear h
  have H' := Aside0.mk H
  clear H
  go_enter Try.func33, Try.ntmps33
  go_wp2
  go_loopg [1, 5] k (fun kq v1 v5 w' => ∃ (x0_1 : List (List Int)) (x1_1 : Int) (x5_1 : Int), v1 = .int .i64 x1_1 ∧ v5 = .int .i64 x5_1 ∧ Aside0 (laws_markIntSS.l0 kq x0_1 x1_1 x5_1 = some (r1, r2)) ∧ Aside0 (kq ≤ k) ∧ Aside0 (Kd.S (Kd.slice 3 (Kd.int .i64)) 24 w' w0.heap.size (fun k_ => (P0_ k_ ∨ w.heap.size ≤ k_)) u9000_ x0_1) ∧ Aside0 (Kept w w' (fun k_ => P0_ k_)) ∧ Aside0 (Below w0.heap.size w0 w'))
  case atStart => exact ⟨l0, a1, 0, rfl, rfl, H', ⟨Nat.le_refl _⟩, HO0, HK, HB⟩
  case round =>
    clear H'
    obtain ⟨x0_1, x1_1, x5_1, rfl, rfl, HA, HK1, HO_0, HK, HB⟩ := hrel
    cases gk with
    | zero => exact absurd HA.out (by simp [laws_markIntSS.l0])
    | succ k1 =>
      have H := HA.out
      clear HA
      simp only [laws_markIntSS.l0] at H
      obtain ⟨Ao6, co6, eo6⟩ := Kd.S_slice HO_0.out
      subst eo6
      by_cases c3 : x5_1 < (x0_1.length : Int)
      · rw [if_pos c3] at H
        by_cases c4 : 0 ≤ x5_1
        · rw [if_pos c4] at H
          obtain ⟨go5, co5, eo5, gb5, gl5, cl5, HG5⟩ := Kd.S_form HO_0.out (by omega)
          (first | cases eo5 | (injection eo5 with ea_ en_ ec_; (first | subst ea_ | (injection ea_ with ea_; subst ea_)); subst ec_; clear en_))

          obtain ⟨oki, ce, hcl, hM, hcc, hfr, hoki, hH⟩ := Kd.S_elem HO_0.out ([] : List Int) x5_1 c4 c3
          obtain ⟨v7, rfl, hR7⟩ := hM
          obtain ⟨A7, c7, rfl⟩ := Kd.R_slice hR7
          obtain ⟨⟨t1, t2⟩, A8, H⟩ := Option.bind_eq_some_iff.1 H
          have A8 : laws_markIntS.f k1 (x0_1.getD x5_1.toNat []) x1_1 = some (t1, t2) := A8
          have H' := Aside0.mk H
          clear H
          generalize x0_1.getD x5_1.toNat [] = y at hR7 hcc A8 hH
          have hx5_0 : wr.cell? ⟨go5, (x5_1 : Int).toNat, none⟩ = some (.slice A7 y.length c7) := by
            have := (show wr.cell? ⟨go5, (x5_1 : Int).toNat * 1 + 0, none⟩ = some _ from hcc 0 _ rfl)
            simpa using this
          have hcall := laws_markIntS.calls k1 oki (.slice A7 y.length c7) y x1_1 t1 t2 w0 wr HB.out hR7 A8
          have HR7 := Aside0.mk hR7
          have HH := Aside0.mk hH
          have HOK := Aside0.mk hoki
          have c3b0 : decide (x5_1 < (x0_1.length : Int)) = true := decide_eq_true c3
          have c4b0 : decide (0 ≤ x5_1) = true := decide_eq_true c4
          have p5 := eq_true c4
          have q5 := eq_true c3
          clear hcc hfr hoki hH hR7 hcl A8 c3 c4
          go_wp2_with (go_at_call 25; refine hcall.mono ?_; rintro e w8 ⟨rfl, hR8, hB8, hK8⟩; have HR8 := Aside0.mk hR8; have HB8 := Aside0.mk hB8; have HK8 := Aside0.mk hK8; clear hcall hR8 hB8 hK8)
          go_roundg k1
          case measure => have := HK1.out; omega
          case rel =>
            refine ⟨x0_1.set (x5_1 : Int).toNat t2, t1, wrap64 (x5_1 + 1), rfl, rfl, H', ⟨by have := HK1.out; omega⟩, ⟨?_⟩, ⟨Kept.then_ HK.out HK8.out (fun k_ hk => (HOK.out k_ hk).1)⟩, HB8⟩
            have hR9 := Kd.R_reok (ok := oki) rfl HR8.out (fun k_ hk => HR7.out.1 k_ hk)
            exact Kd.H_back (Kd.H_kept HH.out HK8.out (fun _ _ h => h)) (x' := t2) ⟨_, rfl, hR9⟩ (fun _ hk => hk)

        · rw [if_neg c4] at H
          exact absurd H (by simp)
      · rw [if_neg c3] at H
        have c3b0 : decide (x5_1 < (x0_1.length : Int)) = false := decide_eq_false c3
        clear c3
        simp only [Option.some.injEq, Prod.mk.injEq] at H
        obtain ⟨rfl, rfl⟩ := H
        go_wp2
        go_ret
        exact ⟨rfl, HO_0.out, HB.out, HK.out⟩

/-! ### laws_markGraph: function 11 -/
def laws_markGraph.f (k : Nat) (r1 : List S50) (r2 : List (List Int)) (r3 : List Int) (a : Int) : Option (Int × List S50 × List (List Int) × List Int) := (laws_markNodeS.f k r1 a).bind fun x => (laws_markIntSS.f k r2 x.1).bind fun y => (laws_markIntS.f k r3 y.1).bind fun z => some (z.1, x.2, y.2, z.2)
set_option maxHeartbeats 8000000 in
set_option maxRecDepth 100000 in
theorem laws_markGraph.calls (k : Nat) (m1 m2 : Nat) (v0 v1 v2 : Value) (r1 : List S50) (r2 : List (List Int)) (r3 : List Int) (a r : Int) (q1 : List S50) (q2 : List (List Int)) (q3 : List Int) (s2 : Nat) (w0 w : World) (hB : Below w0.heap.size w0 w) (h1 : w0.heap.size ≤ m1) (h2 : m1 ≤ m2) (h3 : m2 ≤ s2) (h4 : s2 ≤ w.heap.size)
    (hS0 : Kd.S k50 50 w w0.heap.size (fun k => k < m1) v0 r1) (hS1 : Kd.S (Kd.slice 3 (Kd.int .i64)) 24 w w0.heap.size (fun k => m1 ≤ k ∧ k < m2) v1 r2) (hS2 : Kd.R (Kd.int .i64) 3 w w0.heap.size (fun k => m2 ≤ k ∧ k < s2) v2 r3) (h : laws_markGraph.f k r1 r2 r3 a = some (r, q1, q2, q3)) :
    Calls Try.prog 11 #[.agg #[v0, v1, v2], .int .i64 a] w fun e w' => e = .returned (.int .i64 r) ∧ Below w0.heap.size w0 w' ∧ Kept w w' (fun k_ => w0.heap.size ≤ k_ ∧ k_ < s2) ∧ Kd.S k50 50 w' w0.heap.size (fun _ => True) v0 q1 ∧ Kd.S (Kd.slice 3 (Kd.int .i64)) 24 w' w0.heap.size (fun _ => True) v1 q2 ∧ Kd.R (Kd.int .i64) 3 w' w0.heap.size (fun _ => True) v2 q3 := by
  obtain ⟨⟨x1, x2⟩, F0, h⟩ := Option.bind_eq_some_iff.1 h
  obtain ⟨⟨y1, y2⟩, F1, h⟩ := Option.bind_eq_some_iff.1 h
  obtain ⟨⟨z1, z2⟩, F2, h⟩ := Option.bind_eq_some_iff.1 h
  simp only [Option.some.injEq, Prod.mk.injEq] at h
  obtain ⟨rfl, rfl, rfl, rfl⟩ := h
  obtain ⟨E0, d0, e0⟩ := Kd.S_slice hS0
  subst e0
  obtain ⟨E1, d1, e1⟩ := Kd.S_slice hS1
  subst e1
  obtain ⟨E2, d2, e2⟩ := Kd.R_slice hS2
  subst e2
  obtain ⟨wA, hwA⟩ : ∃ wA, wA = w.alloc (.cells #[.slice E0 r1.length d0, .slice E1 r2.length d1, .slice E2 r3.length d2] 26) := ⟨_, rfl⟩
  have hbx : wA.heap[w.heap.size]? = some (.cells #[.slice E0 r1.length d0, .slice E1 r2.length d1, .slice E2 r3.length d2] 26 (0, 0)) := by rw [hwA]; exact blk_new w _
  have hbA : Below w0.heap.size w0 wA := by rw [hwA]; exact below_alloc hB _
  have hKA : Kept w wA (fun k_ => w0.heap.size ≤ k_ ∧ k_ < s2) := by rw [hwA]; exact Kept.alloc (Kept.refl _ _) _
  have hT0 : Kd.S k50 50 wA w0.heap.size (fun k_ => w0.heap.size ≤ k_ ∧ k_ < m1) (.slice E0 r1.length d0) r1 := by rw [hwA]; exact Kd.S_alloc (Kd.S_mono (Kd.S_bound hS0) (fun k_ hk => ⟨hk.2.1, hk.1⟩)) _
  have hT1 : Kd.S (Kd.slice 3 (Kd.int .i64)) 24 wA w0.heap.size (fun k_ => m1 ≤ k_ ∧ k_ < m2) (.slice E1 r2.length d1) r2 := by rw [hwA]; exact Kd.S_alloc hS1 _
  have hT2 : Kd.R (Kd.int .i64) 3 wA w0.heap.size (fun k_ => m2 ≤ k_ ∧ k_ < s2) (.slice E2 r3.length d2) r3 := by rw [hwA]; exact Kd.R_alloc hS2 _
  have hsA : w.heap.size < wA.heap.size := by rw [hwA]; simp
  have hcall0 := laws_markNodeS.calls k _ _ r1 a x1 x2 w0 wA hbA hT0 F0
  have hcall1 : ∀ w4, Below w0.heap.size w0 w4 → Kept wA w4 (fun k_ => w0.heap.size ≤ k_ ∧ k_ < m1) → _ := fun w4 hb4 hk4 => laws_markIntSS.calls k _ _ r2 x1 y1 y2 w0 w4 hb4 (Kd.S_kept hT1 hk4 (fun k_ a1 a2 => by omega)) F1
  have hcall2 : ∀ w4 w5, Kept wA w4 (fun k_ => w0.heap.size ≤ k_ ∧ k_ < m1) → Below w0.heap.size w0 w5 → Kept w4 w5 (fun k_ => m1 ≤ k_ ∧ k_ < m2) → _ := fun w4 w5 hk4 hb5 hk5 => laws_markIntS.calls k _ _ r3 y1 z1 z2 w0 w5 hb5 (Kd.R_kept (Kd.R_kept hT2 hk4 (fun k_ a1 a2 => by omega)) hk5 (fun k_ a1 a2 => by omega)) F2
  have hcl1 : ∀ w4, Kept wA w4 (fun k_ => w0.heap.size ≤ k_ ∧ k_ < m1) → w4.cell? ⟨w.heap.size, 1, none⟩ = some (.slice E1 r2.length d1) := fun w4 hk => (blk_cell ((hk.2 _ hsA (fun a => by omega)).trans hbx) 1).trans rfl
  have hcl2 : ∀ w4 w5, Kept wA w4 (fun k_ => w0.heap.size ≤ k_ ∧ k_ < m1) → Kept w4 w5 (fun k_ => m1 ≤ k_ ∧ k_ < m2) → w5.cell? ⟨w.heap.size, 2, none⟩ = some (.slice E2 r3.length d2) := fun w4 w5 hk hk5 => (blk_cell ((hk5.2 _ (Nat.lt_of_lt_of_le hsA hk.1) (fun a => by omega)).trans ((hk.2 _ hsA (fun a => by omega)).trans hbx)) 2).trans rfl
  have C1 := Aside0.mk hcall1
  have C2 := Aside0.mk hcall2
  have D1 := Aside0.mk hcl1
  have D2 := Aside0.mk hcl2
  have KA := Aside0.mk hKA
  have SA := Aside0.mk hsA
  have M := Aside0.mk (And.intro h1 (And.intro h2 (And.intro h3 h4)))
  clear hcall1 hcall2 hcl1 hcl2 hKA hT0 hT1 hT2 hS0 hS1 hS2 hB hbA hbx hsA h1 h2 h3 h4 F0 F1 F2
  go_enter Try.func11, Try.ntmps11
  go_wp2_with (first
    | (go_at_call 32; rw [← hwA]; refine hcall0.mono ?_; rintro e w4 ⟨rfl, hq4, hb4, hk4⟩; have Q4 := Aside0.mk hq4; have Z4 := Aside0.mk hk4.1; clear hq4; have hc1 := C1.out w4 hb4 hk4; have hd1 := D1.out w4 hk4; have K4 := Aside0.mk hk4; clear hcall0 hb4 hk4)
    | (go_at_call 33; refine hc1.mono ?_; rintro e w5 ⟨rfl, hq5, hb5, hk5⟩; have Q5 := Aside0.mk hq5; clear hq5; have hc2 := C2.out w4 w5 K4.out hb5 hk5; have hd2 := D2.out w4 w5 K4.out hk5; have K5 := Aside0.mk hk5; clear hc1 hb5 hk5)
    | (go_at_call 25; refine hc2.mono ?_; rintro e w6 ⟨rfl, hq6, hb6, hk6⟩; have Q6 := Aside0.mk hq6; clear hq6; have B6 := Aside0.mk hb6; have K6 := Aside0.mk hk6; clear hc2 hb6 hk6))
  go_ret
  have hm := M.out
  have sa := SA.out
  have z4 := Z4.out
  refine ⟨rfl, B6.out, Kept.then_ (Kept.then_ (Kept.then_ KA.out K4.out (fun k_ hk => Or.inl ⟨hk.1, by omega⟩)) K5.out (fun k_ hk => Or.inl ⟨by omega, by omega⟩)) K6.out (fun k_ hk => Or.inl ⟨by omega, hk.2⟩), ?_, ?_, ?_⟩
  · exact Kd.S_mono (Kd.S_kept (Kd.S_kept Q4.out K5.out (fun k_ a1 a2 => by rcases a1 with a1 | a1 <;> omega)) K6.out (fun k_ a1 a2 => by rcases a1 with a1 | a1 <;> omega)) (fun _ _ => trivial)
  · exact Kd.S_mono (Kd.S_kept Q5.out K6.out (fun k_ a1 a2 => by rcases a1 with a1 | a1 <;> omega)) (fun _ _ => trivial)
  · exact Kd.R_mono Q6.out (fun _ _ => trivial)

/-! ### laws_heldIntS: function 26 -/
def laws_heldIntS.l0 : Nat → List Int → Int → Int → Option (Int)
  | 0, _, _, _ => none
  | k + 1, x0, x1, x5 => if x5 < (x0.length : Int) then (if 0 ≤ x5 then (if (rd x0 x5) = x1 then (laws_heldIntS.l0 k x0 (wrap64 (x1 + 1)) (wrap64 (x5 + 1))) else (some (-1))) else (none)) else (some x1)
def laws_heldIntS.f (k : Nat) (l0 : List Int) (a1 : Int) : Option (Int) := laws_heldIntS.l0 k l0 a1 0
theorem laws_heldIntS.mono_l : ∀ k, (∀ y0 y1 y2, LeO (laws_heldIntS.l0 k y0 y1 y2) (laws_heldIntS.l0 (k + 1) y0 y1 y2))
  | 0 => fun _ _ _ r h => by simp [laws_heldIntS.l0] at h
  | k + 1 => by
    have ih0 := laws_heldIntS.mono_l k
    · intro y0 y1 y2
      unfold laws_heldIntS.l0
      repeat' first
      | (with_reducible exact ih0 _ _ _)
      | (with_reducible exact LeO.refl _)
      | (with_reducible exact LeO.none _)
      | (with_reducible refine LeO.ite ?_ ?_)
      | (with_reducible refine LeO.bind ?_ (fun _ => ?_))
      | exact ih0 _ _ _
      | exact LeO.none _
      | refine LeO.ite ?_ ?_
      | refine LeO.bind ?_ (fun _ => ?_)
theorem laws_heldIntS.mono : ∀ a0 a1 k, LeO (laws_heldIntS.f k a0 a1) (laws_heldIntS.f (k + 1) a0 a1) := by
  intro a0 a1 k
  have ih0 := laws_heldIntS.mono_l k
  unfold laws_heldIntS.f
  repeat' first
      | (with_reducible exact ih0 _ _ _)
      | (with_reducible exact LeO.refl _)
      | (with_reducible exact LeO.none _)
      | (with_reducible refine LeO.ite ?_ ?_)
      | (with_reducible refine LeO.bind ?_ (fun _ => ?_))
      | exact ih0 _ _ _
      | exact LeO.none _
      | refine LeO.ite ?_ ?_
      | refine LeO.bind ?_ (fun _ => ?_)
set_option maxHeartbeats 8000000 in
set_option maxRecDepth 100000 in
theorem laws_heldIntS.calls (k : Nat) (A0 : Option Addr) (c0 : Nat) (l0 : List Int) (a1 : Int) (r : Int) (w : World) (hr0 : Kd.C (Kd.int .i64) w A0 l0.length l0) (hc0 : l0.length ≤ c0) (h : laws_heldIntS.f k l0 a1 = some r) :
    Calls Try.prog 26 #[.slice A0 l0.length c0, .int .i64 a1] w fun e w' => e = .returned (.int .i64 r) ∧ Drawn0 w w' := by
  have HR0 := Aside0.mk hr0
  have HC0 := Aside0.mk hc0
  clear hr0 hc0
  have H : (laws_heldIntS.l0 k l0 a1 0) = some r := h
  clear h
  have H' := Aside0.mk H
  clear H
  go_enter Try.func26, Try.ntmps26
  go_wp2
  go_loopg [1, 5] k (fun kq v1 v5 w' => ∃ (x1_1 : Int) (x5_1 : Int), v1 = .int .i64 x1_1 ∧ v5 = .int .i64 x5_1 ∧ Aside0 (laws_heldIntS.l0 kq l0 x1_1 x5_1 = some r) ∧ Aside0 (kq ≤ k) ∧ Drawn0 w w')
  case atStart => exact ⟨(a1), (0), (by first | rfl | (simp; done) | (simp [*]; done)), (by first | rfl | (simp; done) | (simp [*]; done)), H', ⟨Nat.le_refl _⟩, by repeat (first | exact Drawn0.refl _ | apply Drawn0.step)⟩
  case round =>
    clear H'
    try clear c2
    try clear p2
    obtain ⟨x1_1, x5_1, rfl, rfl, HA, HK1, ⟨m1, rfl⟩⟩ := hrel
    cases gk with
    | zero => exact absurd HA.out (by simp [laws_heldIntS.l0])
    | succ k1 =>
      have H := HA.out
      clear HA
      simp only [laws_heldIntS.l0] at H
      by_cases c3 : x5_1 < (l0.length : Int)
      · rw [if_pos c3] at H
        have c3b0 : decide (x5_1 < (l0.length : Int)) = true := decide_eq_true c3
        clear c3
        by_cases c4 : 0 ≤ x5_1
        · rw [if_pos c4] at H
          have c4b0 : decide (0 ≤ x5_1) = true := decide_eq_true c4
          clear c4
          by_cases c5 : (rd l0 x5_1) = x1_1
          · rw [if_pos c5] at H
            have c5b0 : ((rd l0 x5_1) == x1_1) = true := beq_iff_eq.mpr c5
            have c5b1 : ((rd l0 x5_1) != x1_1) = false := bne_eq_false_iff_eq.mpr c5
            clear c5
            have H' := Aside0.mk H
            clear H
            have p121 : 0 ≤ (x5_1 : Int) := of_decide_eq_true (by first | (with_reducible assumption) | assumption)
            have q121 : x5_1 < (l0.length : Int) := of_decide_eq_true (by first | (with_reducible assumption) | assumption)
            obtain ⟨ad121, e121, hx121_0⟩ := Kd.at_int HR0.out x5_1 p121 q121
            cases e121
            replace p121 := eq_true p121
            replace q121 := eq_true q121
            go_wp2
            go_roundg k1
            case measure => have := HK1.out; omega
            case rel => exact ⟨(wrap64 (x1_1 + 1)), (wrap64 (x5_1 + 1)), (by first | rfl | (simp; done) | (simp [*]; done)), (by first | rfl | (simp; done) | (simp [*]; done)), H', ⟨by have := HK1.out; omega⟩, by repeat (first | exact Drawn0.refl _ | apply Drawn0.step)⟩
          · rw [if_neg c5] at H
            have c5b0 : ((rd l0 x5_1) == x1_1) = false := beq_eq_false_iff_ne.mpr c5
            have c5b1 : ((rd l0 x5_1) != x1_1) = true := bne_iff_ne.mpr c5
            obtain rfl := Option.some.inj H
            have p121 : 0 ≤ (x5_1 : Int) := of_decide_eq_true (by first | (with_reducible assumption) | assumption)
            have q121 : x5_1 < (l0.length : Int) := of_decide_eq_true (by first | (with_reducible assumption) | assumption)
            obtain ⟨ad121, e121, hx121_0⟩ := Kd.at_int HR0.out x5_1 p121 q121
            cases e121
            replace p121 := eq_true p121
            replace q121 := eq_true q121
            go_wp2
            go_ret
            exact ⟨by first | rfl | (simp; done) | (simp [*]; done), by repeat (first | exact Drawn0.refl _ | apply Drawn0.step)⟩
        · rw [if_neg c4] at H
          exact absurd H (by simp)
      · rw [if_neg c3] at H
        have c3b0 : decide (x5_1 < (l0.length : Int)) = false := decide_eq_false c3
        clear c3
        obtain rfl := Option.some.inj H
        go_wp2
        go_ret
        exact ⟨by first | rfl | (simp; done) | (simp [*]; done), by repeat (first | exact Drawn0.refl _ | apply Drawn0.step)⟩

/-! ### laws_heldNodeS: function 34 -/
def laws_heldNodeS.l0 : Nat → List (S50) → Int → Int → Option (Int)
  | 0, _, _, _ => none
  | k + 1, x0, x1, x5 => if x5 < (x0.length : Int) then (if 0 ≤ x5 then ((laws_heldIntS.f k ((rd_T50 x0 x5).f0) x1).bind fun t123 => (if t123 < 0 then (some (-1)) else ((laws_heldIntS.f k ((rd_T50 x0 x5).f1) t123).bind fun t125 => (if t125 < 0 then (some (-1)) else (laws_heldNodeS.l0 k x0 t125 (wrap64 (x5 + 1))))))) else (none)) else (some x1)
def laws_heldNodeS.f (k : Nat) (l0 : List (S50)) (a1 : Int) : Option (Int) := laws_heldNodeS.l0 k l0 a1 0
theorem laws_heldNodeS.mono_l : ∀ k, (∀ y0 y1 y2, LeO (laws_heldNodeS.l0 k y0 y1 y2) (laws_heldNodeS.l0 (k + 1) y0 y1 y2))
  | 0 => fun _ _ _ r h => by simp [laws_heldNodeS.l0] at h
  | k + 1 => by
    have ih0 := laws_heldNodeS.mono_l k
    · intro y0 y1 y2
      unfold laws_heldNodeS.l0
      repeat' first
      | (with_reducible exact ih0 _ _ _)
      | (with_reducible exact laws_heldIntS.mono _ _ _)
      | (with_reducible exact LeO.refl _)
      | (with_reducible exact LeO.none _)
      | (with_reducible refine LeO.ite ?_ ?_)
      | (with_reducible refine LeO.bind ?_ (fun _ => ?_))
      | exact ih0 _ _ _
      | exact laws_heldIntS.mono _ _ _
      | exact LeO.none _
      | refine LeO.ite ?_ ?_
      | refine LeO.bind ?_ (fun _ => ?_)
theorem laws_heldNodeS.mono : ∀ a0 a1 k, LeO (laws_heldNodeS.f k a0 a1) (laws_heldNodeS.f (k + 1) a0 a1) := by
  intro a0 a1 k
  have ih0 := laws_heldNodeS.mono_l k
  unfold laws_heldNodeS.f
  repeat' first
      | (with_reducible exact ih0 _ _ _)
      | (with_reducible exact laws_heldIntS.mono _ _ _)
      | (with_reducible exact LeO.refl _)
      | (with_reducible exact LeO.none _)
      | (with_reducible refine LeO.ite ?_ ?_)
      | (with_reducible refine LeO.bind ?_ (fun _ => ?_))
      | exact ih0 _ _ _
      | exact laws_heldIntS.mono _ _ _
      | exact LeO.none _
      | refine LeO.ite ?_ ?_
      | refine LeO.bind ?_ (fun _ => ?_)
set_option maxHeartbeats 8000000 in
set_option maxRecDepth 100000 in
theorem laws_heldNodeS.calls (k : Nat) (A0 : Option Addr) (c0 : Nat) (l0 : List (S50)) (a1 : Int) (r : Int) (w : World) (hr0 : Kd.C k50 w A0 l0.length l0) (hc0 : l0.length ≤ c0) (h : laws_heldNodeS.f k l0 a1 = some r) :
    Calls Try.prog 34 #[.slice A0 l0.length c0, .int .i64 a1] w fun e w' => e = .returned (.int .i64 r) ∧ Drawn0 w w' := by
  have HR0 := Aside0.mk hr0
  have HC0 := Aside0.mk hc0
  clear hr0 hc0
  have H : (laws_heldNodeS.l0 k l0 a1 0) = some r := h
  clear h
  have H' := Aside0.mk H
  clear H
  go_enter Try.func34, Try.ntmps34
  go_wp2
  go_loopg [1, 5] k (fun kq v1 v5 w' => ∃ (x1_1 : Int) (x5_1 : Int), v1 = .int .i64 x1_1 ∧ v5 = .int .i64 x5_1 ∧ Aside0 (laws_heldNodeS.l0 kq l0 x1_1 x5_1 = some r) ∧ Aside0 (kq ≤ k) ∧ Drawn0 w w')
  case atStart => exact ⟨(a1), (0), (by first | rfl | (simp; done) | (simp [*]; done)), (by first | rfl | (simp; done) | (simp [*]; done)), H', ⟨Nat.le_refl _⟩, by repeat (first | exact Drawn0.refl _ | apply Drawn0.step)⟩
  case round =>
    clear H'
    try clear p2
    obtain ⟨x1_1, x5_1, rfl, rfl, HA, HK1, ⟨m1, rfl⟩⟩ := hrel
    cases gk with
    | zero => exact absurd HA.out (by simp [laws_heldNodeS.l0])
    | succ k1 =>
      have H := HA.out
      clear HA
      simp only [laws_heldNodeS.l0] at H
      by_cases c3 : x5_1 < (l0.length : Int)
      · rw [if_pos c3] at H
        have c3b0 : decide (x5_1 < (l0.length : Int)) = true := decide_eq_true c3
        clear c3
        by_cases c4 : 0 ≤ x5_1
        · rw [if_pos c4] at H
          have c4b0 : decide (0 ≤ x5_1) = true := decide_eq_true c4
          clear c4
          replace H := Option.bind_eq_some_iff.mp H
          obtain ⟨t123, A50, H⟩ := H
          replace H : (if t123 < 0 then (some (-1)) else ((laws_heldIntS.f k1 ((rd_T50 l0 x5_1).f1) t123).bind fun t125 => (if t125 < 0 then (some (-1)) else (laws_heldNodeS.l0 k1 l0 t125 (wrap64 (x5_1 + 1)))))) = some r := H
          have A5 := Aside0.mk A50
          clear A50
          by_cases c6 : t123 < 0
          · rw [if_pos c6] at H
            have c6b0 : decide (t123 < 0) = true := decide_eq_true c6
            clear c6
            obtain rfl := Option.some.inj H
            have p122 : 0 ≤ (x5_1 : Int) := of_decide_eq_true (by first | (with_reducible assumption) | assumption)
            have q122 : x5_1 < (l0.length : Int) := of_decide_eq_true (by first | (with_reducible assumption) | assumption)
            obtain ⟨ad122, A122_0, c122_0, A122_1, c122_1, e122, hx122_0, hx122_1, hl122_0, hi122_0, hl122_1, hi122_1⟩ := at_T50 HR0.out x5_1 p122 q122
            cases e122
            have HR122_0 := Aside0.mk hi122_0
            have HC122_0 := Aside0.mk hl122_0
            clear hi122_0 hl122_0
            have HR122_1 := Aside0.mk hi122_1
            have HC122_1 := Aside0.mk hl122_1
            clear hi122_1 hl122_1
            replace p122 := eq_true p122
            replace q122 := eq_true q122
            go_wp2_with (first | ((with_reducible refine gate_callee (f := 26) rfl ?_); refine goesL_ (some 18) rfl rfl Try.func26 (by kernel_rfl) rfl #[.slice A122_0 ((rd_T50 l0 x5_1).f0).length c122_0, .int .i64 x1_1] rfl (by (try simp only [List.map_toArray, List.map_cons, List.map_nil]); first | done | rfl | (simp only [List.length_drop, List.length_take]; rfl)) ?_; (with_reducible refine (laws_heldIntS.calls k1 _ _ ((rd_T50 l0 x5_1).f0) x1_1 t123 _ ?side1 ?side2 A5.out).mono ?_); (case side1 => repeat (first | exact HR122_0.out | (with_reducible refine Kd.C_alloc ?_ _) | (with_reducible refine Kd.C_drewN ?_ _) | (with_reducible refine Kd.C_drew ?_))); (case side2 => exact HC122_0.out); rintro e w' ⟨rfl, ⟨nd, rfl⟩⟩; refine ⟨_, rfl, ?_⟩))
            go_ret
            exact ⟨by first | rfl | (simp; done) | (simp [*]; done), by repeat (first | exact Drawn0.refl _ | apply Drawn0.step)⟩
          · rw [if_neg c6] at H
            have c6b0 : decide (t123 < 0) = false := decide_eq_false c6
            clear c6
            replace H := Option.bind_eq_some_iff.mp H
            obtain ⟨t125, A70, H⟩ := H
            replace H : (if t125 < 0 then (some (-1)) else (laws_heldNodeS.l0 k1 l0 t125 (wrap64 (x5_1 + 1)))) = some r := H
            have A7 := Aside0.mk A70
            clear A70
            by_cases c8 : t125 < 0
            · rw [if_pos c8] at H
              have c8b0 : decide (t125 < 0) = true := decide_eq_true c8
              clear c8
              obtain rfl := Option.some.inj H
              have p122 : 0 ≤ (x5_1 : Int) := of_decide_eq_true (by first | (with_reducible assumption) | assumption)
              have q122 : x5_1 < (l0.length : Int) := of_decide_eq_true (by first | (with_reducible assumption) | assumption)
              obtain ⟨ad122, A122_0, c122_0, A122_1, c122_1, e122, hx122_0, hx122_1, hl122_0, hi122_0, hl122_1, hi122_1⟩ := at_T50 HR0.out x5_1 p122 q122
              cases e122
              have HR122_0 := Aside0.mk hi122_0
              have HC122_0 := Aside0.mk hl122_0
              clear hi122_0 hl122_0
              have HR122_1 := Aside0.mk hi122_1
              have HC122_1 := Aside0.mk hl122_1
              clear hi122_1 hl122_1
              replace p122 := eq_true p122
              replace q122 := eq_true q122
              go_wp2_with (first | ((with_reducible refine gate_callee (f := 26) rfl ?_); refine goesL_ (some 18) rfl rfl Try.func26 (by kernel_rfl) rfl #[.slice A122_0 ((rd_T50 l0 x5_1).f0).length c122_0, .int .i64 x1_1] rfl (by (try simp only [List.map_toArray, List.map_cons, List.map_nil]); first | done | rfl | (simp only [List.length_drop, List.length_take]; rfl)) ?_; (with_reducible refine (laws_heldIntS.calls k1 _ _ ((rd_T50 l0 x5_1).f0) x1_1 t123 _ ?side1 ?side2 A5.out).mono ?_); (case side1 => repeat (first | exact HR122_0.out | (with_reducible refine Kd.C_alloc ?_ _) | (with_reducible refine Kd.C_drewN ?_ _) | (with_reducible refine Kd.C_drew ?_))); (case side2 => exact HC122_0.out); rintro e w' ⟨rfl, ⟨nd, rfl⟩⟩; refine ⟨_, rfl, ?_⟩; have p124 : 0 ≤ (x5_1 : Int) := of_decide_eq_true (by first | (with_reducible assumption) | assumption); have q124 : x5_1 < (l0.length : Int) := of_decide_eq_true (by first | (with_reducible assumption) | assumption); obtain ⟨ad124, A124_0, c124_0, A124_1, c124_1, e124, hx124_0, hx124_1, hl124_0, hi124_0, hl124_1, hi124_1⟩ := at_T50 HR0.out x5_1 p124 q124; obtain rfl : ad122 = ad124 := (by injection e124); have HR124_0 := Aside0.mk hi124_0; have HC124_0 := Aside0.mk hl124_0; clear hi124_0 hl124_0; have HR124_1 := Aside0.mk hi124_1; have HC124_1 := Aside0.mk hl124_1; clear hi124_1 hl124_1; replace p124 := eq_true p124; replace q124 := eq_true q124; have ea_ := Option.some.inj (hx122_0.symm.trans hx124_0); injection ea_ with ea_ en_ ec_; subst ea_; subst ec_; clear en_; have ea_ := Option.some.inj (hx122_1.symm.trans hx124_1); injection ea_ with ea_ en_ ec_; subst ea_; subst ec_; clear en_) | ((with_reducible refine gate_callee (f := 26) rfl ?_); refine goesL_ (some 27) rfl rfl Try.func26 (by kernel_rfl) rfl #[.slice A122_1 ((rd_T50 l0 x5_1).f1).length c122_1, .int .i64 t123] rfl (by (try simp only [List.map_toArray, List.map_cons, List.map_nil]); first | done | rfl | (simp only [List.length_drop, List.length_take]; rfl)) ?_; (with_reducible refine (laws_heldIntS.calls k1 _ _ ((rd_T50 l0 x5_1).f1) t123 t125 _ ?side1 ?side2 A7.out).mono ?_); (case side1 => repeat (first | exact HR124_1.out | (with_reducible refine Kd.C_alloc ?_ _) | (with_reducible refine Kd.C_drewN ?_ _) | (with_reducible refine Kd.C_drew ?_))); (case side2 => exact HC124_1.out); rintro e w' ⟨rfl, ⟨nd, rfl⟩⟩; refine ⟨_, rfl, ?_⟩))
              go_ret
              exact ⟨by first | rfl | (simp; done) | (simp [*]; done), by repeat (first | exact Drawn0.refl _ | apply Drawn0.step)⟩
            · rw [if_neg c8] at H
              have c8b0 : decide (t125 < 0) = false := decide_eq_false c8
              clear c8
              have H' := Aside0.mk H
              clear H
              have p122 : 0 ≤ (x5_1 : Int) := of_decide_eq_true (by first | (with_reducible assumption) | assumption)
              have q122 : x5_1 < (l0.length : Int) := of_decide_eq_true (by first | (with_reducible assumption) | assumption)
              obtain ⟨ad122, A122_0, c122_0, A122_1, c122_1, e122, hx122_0, hx122_1, hl122_0, hi122_0, hl122_1, hi122_1⟩ := at_T50 HR0.out x5_1 p122 q122
              cases e122
              have HR122_0 := Aside0.mk hi122_0
              have HC122_0 := Aside0.mk hl122_0
              clear hi122_0 hl122_0
              have HR122_1 := Aside0.mk hi122_1
              have HC122_1 := Aside0.mk hl122_1
              clear hi122_1 hl122_1
              replace p122 := eq_true p122
              replace q122 := eq_true q122
              go_wp2_with (first | ((with_reducible refine gate_callee (f := 26) rfl ?_); refine goesL_ (some 18) rfl rfl Try.func26 (by kernel_rfl) rfl #[.slice A122_0 ((rd_T50 l0 x5_1).f0).length c122_0, .int .i64 x1_1] rfl (by (try simp only [List.map_toArray, List.map_cons, List.map_nil]); first | done | rfl | (simp only [List.length_drop, List.length_take]; rfl)) ?_; (with_reducible refine (laws_heldIntS.calls k1 _ _ ((rd_T50 l0 x5_1).f0) x1_1 t123 _ ?side1 ?side2 A5.out).mono ?_); (case side1 => repeat (first | exact HR122_0.out | (with_reducible refine Kd.C_alloc ?_ _) | (with_reducible refine Kd.C_drewN ?_ _) | (with_reducible refine Kd.C_drew ?_))); (case side2 => exact HC122_0.out); rintro e w' ⟨rfl, ⟨nd, rfl⟩⟩; refine ⟨_, rfl, ?_⟩; have p124 : 0 ≤ (x5_1 : Int) := of_decide_eq_true (by first | (with_reducible assumption) | assumption); have q124 : x5_1 < (l0.length : Int) := of_decide_eq_true (by first | (with_reducible assumption) | assumption); obtain ⟨ad124, A124_0, c124_0, A124_1, c124_1, e124, hx124_0, hx124_1, hl124_0, hi124_0, hl124_1, hi124_1⟩ := at_T50 HR0.out x5_1 p124 q124; obtain rfl : ad122 = ad124 := (by injection e124); have HR124_0 := Aside0.mk hi124_0; have HC124_0 := Aside0.mk hl124_0; clear hi124_0 hl124_0; have HR124_1 := Aside0.mk hi124_1; have HC124_1 := Aside0.mk hl124_1; clear hi124_1 hl124_1; replace p124 := eq_true p124; replace q124 := eq_true q124; have ea_ := Option.some.inj (hx122_0.symm.trans hx124_0); injection ea_ with ea_ en_ ec_; subst ea_; subst ec_; clear en_; have ea_ := Option.some.inj (hx122_1.symm.trans hx124_1); injection ea_ with ea_ en_ ec_; subst ea_; subst ec_; clear en_) | ((with_reducible refine gate_callee (f := 26) rfl ?_); refine goesL_ (some 27) rfl rfl Try.func26 (by kernel_rfl) rfl #[.slice A122_1 ((rd_T50 l0 x5_1).f1).length c122_1, .int .i64 t123] rfl (by (try simp only [List.map_toArray, List.map_cons, List.map_nil]); first | done | rfl | (simp only [List.length_drop, List.length_take]; rfl)) ?_; (with_reducible refine (laws_heldIntS.calls k1 _ _ ((rd_T50 l0 x5_1).f1) t123 t125 _ ?side1 ?side2 A7.out).mono ?_); (case side1 => repeat (first | exact HR124_1.out | (with_reducible refine Kd.C_alloc ?_ _) | (with_reducible refine Kd.C_drewN ?_ _) | (with_reducible refine Kd.C_drew ?_))); (case side2 => exact HC124_1.out); rintro e w' ⟨rfl, ⟨nd, rfl⟩⟩; refine ⟨_, rfl, ?_⟩))
              go_roundg k1
              case measure => have := HK1.out; omega
              case rel => exact ⟨(t125), (wrap64 (x5_1 + 1)), (by first | rfl | (simp; done) | (simp [*]; done)), (by first | rfl | (simp; done) | (simp [*]; done)), H', ⟨by have := HK1.out; omega⟩, by repeat (first | exact Drawn0.refl _ | apply Drawn0.step)⟩
        · rw [if_neg c4] at H
          exact absurd H (by simp)
      · rw [if_neg c3] at H
        have c3b0 : decide (x5_1 < (l0.length : Int)) = false := decide_eq_false c3
        clear c3
        obtain rfl := Option.some.inj H
        go_wp2
        go_ret
        exact ⟨by first | rfl | (simp; done) | (simp [*]; done), by repeat (first | exact Drawn0.refl _ | apply Drawn0.step)⟩

/-! ### laws_heldIntSS: function 35 -/
def laws_heldIntSS.l0 : Nat → List (List Int) → Int → Int → Option (Int)
  | 0, _, _, _ => none
  | k + 1, x0, x1, x5 => if x5 < (x0.length : Int) then (if 0 ≤ x5 then ((laws_heldIntS.f k (rd_L1 x0 x5) x1).bind fun t127 => (if t127 < 0 then (some (-1)) else (laws_heldIntSS.l0 k x0 t127 (wrap64 (x5 + 1))))) else (none)) else (some x1)
def laws_heldIntSS.f (k : Nat) (l0 : List (List Int)) (a1 : Int) : Option (Int) := laws_heldIntSS.l0 k l0 a1 0
theorem laws_heldIntSS.mono_l : ∀ k, (∀ y0 y1 y2, LeO (laws_heldIntSS.l0 k y0 y1 y2) (laws_heldIntSS.l0 (k + 1) y0 y1 y2))
  | 0 => fun _ _ _ r h => by simp [laws_heldIntSS.l0] at h
  | k + 1 => by
    have ih0 := laws_heldIntSS.mono_l k
    · intro y0 y1 y2
      unfold laws_heldIntSS.l0
      repeat' first
      | (with_reducible exact ih0 _ _ _)
      | (with_reducible exact laws_heldIntS.mono _ _ _)
      | (with_reducible exact LeO.refl _)
      | (with_reducible exact LeO.none _)
      | (with_reducible refine LeO.ite ?_ ?_)
      | (with_reducible refine LeO.bind ?_ (fun _ => ?_))
      | exact ih0 _ _ _
      | exact laws_heldIntS.mono _ _ _
      | exact LeO.none _
      | refine LeO.ite ?_ ?_
      | refine LeO.bind ?_ (fun _ => ?_)
theorem laws_heldIntSS.mono : ∀ a0 a1 k, LeO (laws_heldIntSS.f k a0 a1) (laws_heldIntSS.f (k + 1) a0 a1) := by
  intro a0 a1 k
  have ih0 := laws_heldIntSS.mono_l k
  unfold laws_heldIntSS.f
  repeat' first
      | (with_reducible exact ih0 _ _ _)
      | (with_reducible exact laws_heldIntS.mono _ _ _)
      | (with_reducible exact LeO.refl _)
      | (with_reducible exact LeO.none _)
      | (with_reducible refine LeO.ite ?_ ?_)
      | (with_reducible refine LeO.bind ?_ (fun _ => ?_))
      | exact ih0 _ _ _
      | exact laws_heldIntS.mono _ _ _
      | exact LeO.none _
      | refine LeO.ite ?_ ?_
      | refine LeO.bind ?_ (fun _ => ?_)
set_option maxHeartbeats 8000000 in
set_option maxRecDepth 100000 in
theorem laws_heldIntSS.calls (k : Nat) (A0 : Option Addr) (c0 : Nat) (l0 : List (List Int)) (a1 : Int) (r : Int) (w : World) (hr0 : Kd.C (Kd.slice 3 (Kd.int .i64)) w A0 l0.length l0) (hc0 : l0.length ≤ c0) (h : laws_heldIntSS.f k l0 a1 = some r) :
    Calls Try.prog 35 #[.slice A0 l0.length c0, .int .i64 a1] w fun e w' => e = .returned (.int .i64 r) ∧ Drawn0 w w' := by
  have HR0 := Aside0.mk hr0
  have HC0 := Aside0.mk hc0
  clear hr0 hc0
  have H : (laws_heldIntSS.l0 k l0 a1 0) = some r := h
  clear h
  have H' := Aside0.mk H
  clear H
  go_enter Try.func35, Try.ntmps35
  go_wp2
  go_loopg [1, 5] k (fun kq v1 v5 w' => ∃ (x1_1 : Int) (x5_1 : Int), v1 = .int .i64 x1_1 ∧ v5 = .int .i64 x5_1 ∧ Aside0 (laws_heldIntSS.l0 kq l0 x1_1 x5_1 = some r) ∧ Aside0 (kq ≤ k) ∧ Drawn0 w w')
  case atStart => exact ⟨(a1), (0), (by first | rfl | (simp; done) | (simp [*]; done)), (by first | rfl | (simp; done) | (simp [*]; done)), H', ⟨Nat.le_refl _⟩, by repeat (first | exact Drawn0.refl _ | apply Drawn0.step)⟩
  case round =>
    clear H'
    try clear p2
    obtain ⟨x1_1, x5_1, rfl, rfl, HA, HK1, ⟨m1, rfl⟩⟩ := hrel
    cases gk with
    | zero => exact absurd HA.out (by simp [laws_heldIntSS.l0])
    | succ k1 =>
      have H := HA.out
      clear HA
      simp only [laws_heldIntSS.l0] at H
      by_cases c3 : x5_1 < (l0.length : Int)
      · rw [if_pos c3] at H
        have c3b0 : decide (x5_1 < (l0.length : Int)) = true := decide_eq_true c3
        clear c3
        by_cases c4 : 0 ≤ x5_1
        · rw [if_pos c4] at H
          have c4b0 : decide (0 ≤ x5_1) = true := decide_eq_true c4
          clear c4
          replace H := Option.bind_eq_some_iff.mp H
          obtain ⟨t127, A50, H⟩ := H
          replace H : (if t127 < 0 then (some (-1)) else (laws_heldIntSS.l0 k1 l0 t127 (wrap64 (x5_1 + 1)))) = some r := H
          have A5 := Aside0.mk A50
          clear A50
          by_cases c6 : t127 < 0
          · rw [if_pos c6] at H
            have c6b0 : decide (t127 < 0) = true := decide_eq_true c6
            clear c6
            obtain rfl := Option.some.inj H
            have p126 : 0 ≤ (x5_1 : Int) := of_decide_eq_true (by first | (with_reducible assumption) | assumption)
            have q126 : x5_1 < (l0.length : Int) := of_decide_eq_true (by first | (with_reducible assumption) | assumption)
            obtain ⟨ad126, A126_0, c126_0, e126, hx126_0, hl126_0, hi126_0⟩ := at_L1 HR0.out x5_1 p126 q126
            cases e126
            have HR126_0 := Aside0.mk hi126_0
            have HC126_0 := Aside0.mk hl126_0
            clear hi126_0 hl126_0
            replace p126 := eq_true p126
            replace q126 := eq_true q126
            go_wp2_with (first | ((with_reducible refine gate_callee (f := 26) rfl ?_); refine goesL_ (some 17) rfl rfl Try.func26 (by kernel_rfl) rfl #[.slice A126_0 (rd_L1 l0 x5_1).length c126_0, .int .i64 x1_1] rfl (by (try simp only [List.map_toArray, List.map_cons, List.map_nil]); first | done | rfl | (simp only [List.length_drop, List.length_take]; rfl)) ?_; (with_reducible refine (laws_heldIntS.calls k1 _ _ (rd_L1 l0 x5_1) x1_1 t127 _ ?side1 ?side2 A5.out).mono ?_); (case side1 => repeat (first | exact HR126_0.out | (with_reducible refine Kd.C_alloc ?_ _) | (with_reducible refine Kd.C_drewN ?_ _) | (with_reducible refine Kd.C_drew ?_))); (case side2 => exact HC126_0.out); rintro e w' ⟨rfl, ⟨nd, rfl⟩⟩; refine ⟨_, rfl, ?_⟩))
            go_ret
            exact ⟨by first | rfl | (simp; done) | (simp [*]; done), by repeat (first | exact Drawn0.refl _ | apply Drawn0.step)⟩
          · rw [if_neg c6] at H
            have c6b0 : decide (t127 < 0) = false := decide_eq_false c6
            clear c6
            have H' := Aside0.mk H
            clear H
            have p126 : 0 ≤ (x5_1 : Int) := of_decide_eq_true (by first | (with_reducible assumption) | assumption)
            have q126 : x5_1 < (l0.length : Int) := of_decide_eq_true (by first | (with_reducible assumption) | assumption)
            obtain ⟨ad126, A126_0, c126_0, e126, hx126_0, hl126_0, hi126_0⟩ := at_L1 HR0.out x5_1 p126 q126
            cases e126
            have HR126_0 := Aside0.mk hi126_0
            have HC126_0 := Aside0.mk hl126_0
            clear hi126_0 hl126_0
            replace p126 := eq_true p126
            replace q126 := eq_true q126
            go_wp2_with (first | ((with_reducible refine gate_callee (f := 26) rfl ?_); refine goesL_ (some 17) rfl rfl Try.func26 (by kernel_rfl) rfl #[.slice A126_0 (rd_L1 l0 x5_1).length c126_0, .int .i64 x1_1] rfl (by (try simp only [List.map_toArray, List.map_cons, List.map_nil]); first | done | rfl | (simp only [List.length_drop, List.length_take]; rfl)) ?_; (with_reducible refine (laws_heldIntS.calls k1 _ _ (rd_L1 l0 x5_1) x1_1 t127 _ ?side1 ?side2 A5.out).mono ?_); (case side1 => repeat (first | exact HR126_0.out | (with_reducible refine Kd.C_alloc ?_ _) | (with_reducible refine Kd.C_drewN ?_ _) | (with_reducible refine Kd.C_drew ?_))); (case side2 => exact HC126_0.out); rintro e w' ⟨rfl, ⟨nd, rfl⟩⟩; refine ⟨_, rfl, ?_⟩))
            go_roundg k1
            case measure => have := HK1.out; omega
            case rel => exact ⟨(t127), (wrap64 (x5_1 + 1)), (by first | rfl | (simp; done) | (simp [*]; done)), (by first | rfl | (simp; done) | (simp [*]; done)), H', ⟨by have := HK1.out; omega⟩, by repeat (first | exact Drawn0.refl _ | apply Drawn0.step)⟩
        · rw [if_neg c4] at H
          exact absurd H (by simp)
      · rw [if_neg c3] at H
        have c3b0 : decide (x5_1 < (l0.length : Int)) = false := decide_eq_false c3
        clear c3
        obtain rfl := Option.some.inj H
        go_wp2
        go_ret
        exact ⟨by first | rfl | (simp; done) | (simp [*]; done), by repeat (first | exact Drawn0.refl _ | apply Drawn0.step)⟩

/-! ### laws_heldGraph: function 12 -/
def laws_heldGraph.f (k : Nat) (l0_0 : List (S50)) (l0_1 : List (List Int)) (l0_2 : List Int) (a1 : Int) : Option (Int) := (laws_heldNodeS.f k l0_0 a1).bind fun t129 => (if t129 < 0 then (some (-1)) else ((laws_heldIntSS.f k l0_1 t129).bind fun t130 => (if t130 < 0 then (some (-1)) else ((laws_heldIntS.f k l0_2 t130).bind fun t131 => (if t131 < 0 then (some (-1)) else (some t131))))))
theorem laws_heldGraph.mono : ∀ a0 a1 a2 a3 k, LeO (laws_heldGraph.f k a0 a1 a2 a3) (laws_heldGraph.f (k + 1) a0 a1 a2 a3) := by
  intro a0 a1 a2 a3 k
  unfold laws_heldGraph.f
  repeat' first
      | (with_reducible exact laws_heldIntS.mono _ _ _)
      | (with_reducible exact laws_heldIntSS.mono _ _ _)
      | (with_reducible exact laws_heldNodeS.mono _ _ _)
      | (with_reducible exact LeO.refl _)
      | (with_reducible exact LeO.none _)
      | (with_reducible refine LeO.ite ?_ ?_)
      | (with_reducible refine LeO.bind ?_ (fun _ => ?_))
      | exact laws_heldIntS.mono _ _ _
      | exact laws_heldIntSS.mono _ _ _
      | exact laws_heldNodeS.mono _ _ _
      | exact LeO.none _
      | refine LeO.ite ?_ ?_
      | refine LeO.bind ?_ (fun _ => ?_)
set_option maxHeartbeats 8000000 in
set_option maxRecDepth 100000 in
theorem laws_heldGraph.calls (k : Nat) (A0_0 : Option Addr) (c0_0 : Nat) (l0_0 : List (S50)) (A0_1 : Option Addr) (c0_1 : Nat) (l0_1 : List (List Int)) (A0_2 : Option Addr) (c0_2 : Nat) (l0_2 : List Int) (a1 : Int) (r : Int) (w : World) (hr0_0 : Kd.C k50 w A0_0 l0_0.length l0_0) (hc0_0 : l0_0.length ≤ c0_0) (hr0_1 : Kd.C (Kd.slice 3 (Kd.int .i64)) w A0_1 l0_1.length l0_1) (hc0_1 : l0_1.length ≤ c0_1) (hr0_2 : Kd.C (Kd.int .i64) w A0_2 l0_2.length l0_2) (hc0_2 : l0_2.length ≤ c0_2) (h : laws_heldGraph.f k l0_0 l0_1 l0_2 a1 = some r) :
    Calls Try.prog 12 #[.agg #[.slice A0_0 l0_0.length c0_0, .slice A0_1 l0_1.length c0_1, .slice A0_2 l0_2.length c0_2], .int .i64 a1] w fun e w' => e = .returned (.int .i64 r) ∧ Below w.heap.size w w' := by
  have hu26 := Try.underlying26
  have HR0_0 := Aside0.mk hr0_0
  have HC0_0 := Aside0.mk hc0_0
  clear hr0_0 hc0_0
  have HR0_1 := Aside0.mk hr0_1
  have HC0_1 := Aside0.mk hc0_1
  clear hr0_1 hc0_1
  have HR0_2 := Aside0.mk hr0_2
  have HC0_2 := Aside0.mk hc0_2
  clear hr0_2 hc0_2
  have HB := Aside0.mk (Below.refl w.heap.size w)
  have H : ((laws_heldNodeS.f k l0_0 a1).bind fun t129 => (if t129 < 0 then (some (-1)) else ((laws_heldIntSS.f k l0_1 t129).bind fun t130 => (if t130 < 0 then (some (-1)) else ((laws_heldIntS.f k l0_2 t130).bind fun t131 => (if t131 < 0 then (some (-1)) else (some t131))))))) = some r := h
  clear h
  replace H := Option.bind_eq_some_iff.mp H
  obtain ⟨t129, A30, H⟩ := H
  replace H : (if t129 < 0 then (some (-1)) else ((laws_heldIntSS.f k l0_1 t129).bind fun t130 => (if t130 < 0 then (some (-1)) else ((laws_heldIntS.f k l0_2 t130).bind fun t131 => (if t131 < 0 then (some (-1)) else (some t131)))))) = some r := H
  have A3 := Aside0.mk A30
  clear A30
  by_cases c4 : t129 < 0
  · rw [if_pos c4] at H
    have c4b0 : decide (t129 < 0) = true := decide_eq_true c4
    clear c4
    obtain rfl := Option.some.inj H
    go_enter Try.func12, Try.ntmps12
    go_wp2_with (first | ((with_reducible refine gate_dst (N := 2) rfl ?_); refine box_event ?hg (N := 2) ?hd (cs := #[.slice A0_0 l0_0.length c0_0, .slice A0_1 l0_1.length c0_1, .slice A0_2 l0_2.length c0_2]) (t := 26) ?hr ?_; (case hd => rfl); (case hg => rfl); (case hr => first | (go_simp; done) | (go_simp; rfl)); intro gb128 hg w5 hbox hb; have n0_ := Aside0.mk (below_step (by repeat (first | (with_reducible first | exact HB.out | apply below_alloc | apply pw_below_drewN | apply below_drew1) | exact HB.out)) hb); have n1_ := Aside0.mk (hbox); have n2_ := Aside0.mk ((by rw [hg]; exact (below_size (by repeat (first | (with_reducible first | exact HB.out | apply below_alloc | apply pw_below_drewN | apply below_drew1) | exact HB.out))) : w.heap.size ≤ gb128)); have n3_ := Aside0.mk ((by rw [hg]; exact (below_size (by repeat (first | (with_reducible first | exact HB.out | apply below_alloc | apply pw_below_drewN | apply below_drew1) | exact HB.out))) : w.heap.size ≤ gb128)); clear HB; have HB := n0_; have BK128 := n1_; have GW128 := n2_; have GE128 := n3_; clear n0_ n1_ n2_ n3_; clear hb hbox hg; have hcz6_0 : w5.cell? ⟨gb128, 0, none⟩ = some (.slice A0_0 l0_0.length c0_0) := (blk_cell BK128.out 0).trans rfl; have hcz6_1 : w5.cell? ⟨gb128, 1, none⟩ = some (.slice A0_1 l0_1.length c0_1) := (blk_cell BK128.out 1).trans rfl; have hcz6_2 : w5.cell? ⟨gb128, 2, none⟩ = some (.slice A0_2 l0_2.length c0_2) := (blk_cell BK128.out 2).trans rfl; have hfz6_0 := blk_frozen BK128.out 0; have hfz6_1 := blk_frozen BK128.out 1; have hfz6_2 := blk_frozen BK128.out 2) | ((with_reducible refine gate_callee (f := 34) rfl ?_); refine goesL_ (some 8) rfl rfl Try.func34 (by kernel_rfl) rfl #[.slice A0_0 l0_0.length c0_0, .int .i64 a1] rfl (by (try simp only [List.map_toArray, List.map_cons, List.map_nil]); first | done | rfl | (simp only [List.length_drop, List.length_take]; rfl)) ?_; (with_reducible refine (laws_heldNodeS.calls k _ _ l0_0 a1 t129 _ ?side1 ?side2 A3.out).mono ?_); (case side1 => repeat (first | exact (Kd.C_below HR0_0.out HB.out) | (with_reducible refine Kd.C_alloc ?_ _) | (with_reducible refine Kd.C_drewN ?_ _) | (with_reducible refine Kd.C_drew ?_))); (case side2 => exact HC0_0.out); rintro e w' ⟨rfl, ⟨nd, rfl⟩⟩; refine ⟨_, rfl, ?_⟩))
    go_ret
    exact ⟨by first | rfl | (simp [errW_none, errW_some] <;> rfl) | (simp [*, errW_none, errW_some] <;> rfl), by repeat (first | (with_reducible first | exact HB.out | apply below_alloc | apply pw_below_drewN | apply below_drew1 | refine below_set ?_ GE128.out) | exact HB.out)⟩
  · rw [if_neg c4] at H
    have c4b0 : decide (t129 < 0) = false := decide_eq_false c4
    clear c4
    replace H := Option.bind_eq_some_iff.mp H
    obtain ⟨t130, A70, H⟩ := H
    replace H : (if t130 < 0 then (some (-1)) else ((laws_heldIntS.f k l0_2 t130).bind fun t131 => (if t131 < 0 then (some (-1)) else (some t131)))) = some r := H
    have A7 := Aside0.mk A70
    clear A70
    by_cases c8 : t130 < 0
    · rw [if_pos c8] at H
      have c8b0 : decide (t130 < 0) = true := decide_eq_true c8
      clear c8
      obtain rfl := Option.some.inj H
      go_enter Try.func12, Try.ntmps12
      go_wp2_with (first | ((with_reducible refine gate_dst (N := 2) rfl ?_); refine box_event ?hg (N := 2) ?hd (cs := #[.slice A0_0 l0_0.length c0_0, .slice A0_1 l0_1.length c0_1, .slice A0_2 l0_2.length c0_2]) (t := 26) ?hr ?_; (case hd => rfl); (case hg => rfl); (case hr => first | (go_simp; done) | (go_simp; rfl)); intro gb128 hg w9 hbox hb; have n0_ := Aside0.mk (below_step (by repeat (first | (with_reducible first | exact HB.out | apply below_alloc | apply pw_below_drewN | apply below_drew1) | exact HB.out)) hb); have n1_ := Aside0.mk (hbox); have n2_ := Aside0.mk ((by rw [hg]; exact (below_size (by repeat (first | (with_reducible first | exact HB.out | apply below_alloc | apply pw_below_drewN | apply below_drew1) | exact HB.out))) : w.heap.size ≤ gb128)); have n3_ := Aside0.mk ((by rw [hg]; exact (below_size (by repeat (first | (with_reducible first | exact HB.out | apply below_alloc | apply pw_below_drewN | apply below_drew1) | exact HB.out))) : w.heap.size ≤ gb128)); clear HB; have HB := n0_; have BK128 := n1_; have GW128 := n2_; have GE128 := n3_; clear n0_ n1_ n2_ n3_; clear hb hbox hg; have hcz10_0 : w9.cell? ⟨gb128, 0, none⟩ = some (.slice A0_0 l0_0.length c0_0) := (blk_cell BK128.out 0).trans rfl; have hcz10_1 : w9.cell? ⟨gb128, 1, none⟩ = some (.slice A0_1 l0_1.length c0_1) := (blk_cell BK128.out 1).trans rfl; have hcz10_2 : w9.cell? ⟨gb128, 2, none⟩ = some (.slice A0_2 l0_2.length c0_2) := (blk_cell BK128.out 2).trans rfl; have hfz10_0 := blk_frozen BK128.out 0; have hfz10_1 := blk_frozen BK128.out 1; have hfz10_2 := blk_frozen BK128.out 2) | ((with_reducible refine gate_callee (f := 34) rfl ?_); refine goesL_ (some 8) rfl rfl Try.func34 (by kernel_rfl) rfl #[.slice A0_0 l0_0.length c0_0, .int .i64 a1] rfl (by (try simp only [List.map_toArray, List.map_cons, List.map_nil]); first | done | rfl | (simp only [List.length_drop, List.length_take]; rfl)) ?_; (with_reducible refine (laws_heldNodeS.calls k _ _ l0_0 a1 t129 _ ?side1 ?side2 A3.out).mono ?_); (case side1 => repeat (first | exact (Kd.C_below HR0_0.out HB.out) | (with_reducible refine Kd.C_alloc ?_ _) | (with_reducible refine Kd.C_drewN ?_ _) | (with_reducible refine Kd.C_drew ?_))); (case side2 => exact HC0_0.out); rintro e w' ⟨rfl, ⟨nd, rfl⟩⟩; refine ⟨_, rfl, ?_⟩) | ((with_reducible refine gate_callee (f := 35) rfl ?_); refine goesL_ (some 14) rfl rfl Try.func35 (by kernel_rfl) rfl #[.slice A0_1 l0_1.length c0_1, .int .i64 t129] rfl (by (try simp only [List.map_toArray, List.map_cons, List.map_nil]); first | done | rfl | (simp only [List.length_drop, List.length_take]; rfl)) ?_; (with_reducible refine (laws_heldIntSS.calls k _ _ l0_1 t129 t130 _ ?side1 ?side2 A7.out).mono ?_); (case side1 => repeat (first | exact (Kd.C_below HR0_1.out (by repeat (first | (with_reducible first | exact HB.out | apply below_alloc | apply pw_below_drewN | apply below_drew1 | refine below_set ?_ GE128.out) | exact HB.out))) | (with_reducible refine Kd.C_alloc ?_ _) | (with_reducible refine Kd.C_drewN ?_ _) | (with_reducible refine Kd.C_drew ?_))); (case side2 => exact HC0_1.out); rintro e w' ⟨rfl, ⟨nd, rfl⟩⟩; refine ⟨_, rfl, ?_⟩))
      go_ret
      exact ⟨by first | rfl | (simp [errW_none, errW_some] <;> rfl) | (simp [*, errW_none, errW_some] <;> rfl), by repeat (first | (with_reducible first | exact HB.out | apply below_alloc | apply pw_below_drewN | apply below_drew1 | refine below_set ?_ GE128.out) | exact HB.out)⟩
    · rw [if_neg c8] at H
      have c8b0 : decide (t130 < 0) = false := decide_eq_false c8
      clear c8
      replace H := Option.bind_eq_some_iff.mp H
      obtain ⟨t131, A110, H⟩ := H
      replace H : (if t131 < 0 then (some (-1)) else (some t131)) = some r := H
      have A11 := Aside0.mk A110
      clear A110
      by_cases c12 : t131 < 0
      · rw [if_pos c12] at H
        have c12b0 : decide (t131 < 0) = true := decide_eq_true c12
        clear c12
        obtain rfl := Option.some.inj H
        go_enter Try.func12, Try.ntmps12
        go_wp2_with (first | ((with_reducible refine gate_dst (N := 2) rfl ?_); refine box_event ?hg (N := 2) ?hd (cs := #[.slice A0_0 l0_0.length c0_0, .slice A0_1 l0_1.length c0_1, .slice A0_2 l0_2.length c0_2]) (t := 26) ?hr ?_; (case hd => rfl); (case hg => rfl); (case hr => first | (go_simp; done) | (go_simp; rfl)); intro gb128 hg w13 hbox hb; have n0_ := Aside0.mk (below_step (by repeat (first | (with_reducible first | exact HB.out | apply below_alloc | apply pw_below_drewN | apply below_drew1) | exact HB.out)) hb); have n1_ := Aside0.mk (hbox); have n2_ := Aside0.mk ((by rw [hg]; exact (below_size (by repeat (first | (with_reducible first | exact HB.out | apply below_alloc | apply pw_below_drewN | apply below_drew1) | exact HB.out))) : w.heap.size ≤ gb128)); have n3_ := Aside0.mk ((by rw [hg]; exact (below_size (by repeat (first | (with_reducible first | exact HB.out | apply below_alloc | apply pw_below_drewN | apply below_drew1) | exact HB.out))) : w.heap.size ≤ gb128)); clear HB; have HB := n0_; have BK128 := n1_; have GW128 := n2_; have GE128 := n3_; clear n0_ n1_ n2_ n3_; clear hb hbox hg; have hcz14_0 : w13.cell? ⟨gb128, 0, none⟩ = some (.slice A0_0 l0_0.length c0_0) := (blk_cell BK128.out 0).trans rfl; have hcz14_1 : w13.cell? ⟨gb128, 1, none⟩ = some (.slice A0_1 l0_1.length c0_1) := (blk_cell BK128.out 1).trans rfl; have hcz14_2 : w13.cell? ⟨gb128, 2, none⟩ = some (.slice A0_2 l0_2.length c0_2) := (blk_cell BK128.out 2).trans rfl; have hfz14_0 := blk_frozen BK128.out 0; have hfz14_1 := blk_frozen BK128.out 1; have hfz14_2 := blk_frozen BK128.out 2) | ((with_reducible refine gate_callee (f := 34) rfl ?_); refine goesL_ (some 8) rfl rfl Try.func34 (by kernel_rfl) rfl #[.slice A0_0 l0_0.length c0_0, .int .i64 a1] rfl (by (try simp only [List.map_toArray, List.map_cons, List.map_nil]); first | done | rfl | (simp only [List.length_drop, List.length_take]; rfl)) ?_; (with_reducible refine (laws_heldNodeS.calls k _ _ l0_0 a1 t129 _ ?side1 ?side2 A3.out).mono ?_); (case side1 => repeat (first | exact (Kd.C_below HR0_0.out HB.out) | (with_reducible refine Kd.C_alloc ?_ _) | (with_reducible refine Kd.C_drewN ?_ _) | (with_reducible refine Kd.C_drew ?_))); (case side2 => exact HC0_0.out); rintro e w' ⟨rfl, ⟨nd, rfl⟩⟩; refine ⟨_, rfl, ?_⟩) | ((with_reducible refine gate_callee (f := 35) rfl ?_); refine goesL_ (some 14) rfl rfl Try.func35 (by kernel_rfl) rfl #[.slice A0_1 l0_1.length c0_1, .int .i64 t129] rfl (by (try simp only [List.map_toArray, List.map_cons, List.map_nil]); first | done | rfl | (simp only [List.length_drop, List.length_take]; rfl)) ?_; (with_reducible refine (laws_heldIntSS.calls k _ _ l0_1 t129 t130 _ ?side1 ?side2 A7.out).mono ?_); (case side1 => repeat (first | exact (Kd.C_below HR0_1.out (by repeat (first | (with_reducible first | exact HB.out | apply below_alloc | apply pw_below_drewN | apply below_drew1 | refine below_set ?_ GE128.out) | exact HB.out))) | (with_reducible refine Kd.C_alloc ?_ _) | (with_reducible refine Kd.C_drewN ?_ _) | (with_reducible refine Kd.C_drew ?_))); (case side2 => exact HC0_1.out); rintro e w' ⟨rfl, ⟨nd, rfl⟩⟩; refine ⟨_, rfl, ?_⟩) | ((with_reducible refine gate_callee (f := 26) rfl ?_); refine goesL_ (some 20) rfl rfl Try.func26 (by kernel_rfl) rfl #[.slice A0_2 l0_2.length c0_2, .int .i64 t130] rfl (by (try simp only [List.map_toArray, List.map_cons, List.map_nil]); first | done | rfl | (simp only [List.length_drop, List.length_take]; rfl)) ?_; (with_reducible refine (laws_heldIntS.calls k _ _ l0_2 t130 t131 _ ?side1 ?side2 A11.out).mono ?_); (case side1 => repeat (first | exact (Kd.C_below HR0_2.out (by repeat (first | (with_reducible first | exact HB.out | apply below_alloc | apply pw_below_drewN | apply below_drew1 | refine below_set ?_ GE128.out) | exact HB.out))) | (with_reducible refine Kd.C_alloc ?_ _) | (with_reducible refine Kd.C_drewN ?_ _) | (with_reducible refine Kd.C_drew ?_))); (case side2 => exact HC0_2.out); rintro e w' ⟨rfl, ⟨nd, rfl⟩⟩; refine ⟨_, rfl, ?_⟩))
        go_ret
        exact ⟨by first | rfl | (simp [errW_none, errW_some] <;> rfl) | (simp [*, errW_none, errW_some] <;> rfl), by repeat (first | (with_reducible first | exact HB.out | apply below_alloc | apply pw_below_drewN | apply below_drew1 | refine below_set ?_ GE128.out) | exact HB.out)⟩
      · rw [if_neg c12] at H
        have c12b0 : decide (t131 < 0) = false := decide_eq_false c12
        clear c12
        obtain rfl := Option.some.inj H
        go_enter Try.func12, Try.ntmps12
        go_wp2_with (first | ((with_reducible refine gate_dst (N := 2) rfl ?_); refine box_event ?hg (N := 2) ?hd (cs := #[.slice A0_0 l0_0.length c0_0, .slice A0_1 l0_1.length c0_1, .slice A0_2 l0_2.length c0_2]) (t := 26) ?hr ?_; (case hd => rfl); (case hg => rfl); (case hr => first | (go_simp; done) | (go_simp; rfl)); intro gb128 hg w15 hbox hb; have n0_ := Aside0.mk (below_step (by repeat (first | (with_reducible first | exact HB.out | apply below_alloc | apply pw_below_drewN | apply below_drew1) | exact HB.out)) hb); have n1_ := Aside0.mk (hbox); have n2_ := Aside0.mk ((by rw [hg]; exact (below_size (by repeat (first | (with_reducible first | exact HB.out | apply below_alloc | apply pw_below_drewN | apply below_drew1) | exact HB.out))) : w.heap.size ≤ gb128)); have n3_ := Aside0.mk ((by rw [hg]; exact (below_size (by repeat (first | (with_reducible first | exact HB.out | apply below_alloc | apply pw_below_drewN | apply below_drew1) | exact HB.out))) : w.heap.size ≤ gb128)); clear HB; have HB := n0_; have BK128 := n1_; have GW128 := n2_; have GE128 := n3_; clear n0_ n1_ n2_ n3_; clear hb hbox hg; have hcz16_0 : w15.cell? ⟨gb128, 0, none⟩ = some (.slice A0_0 l0_0.length c0_0) := (blk_cell BK128.out 0).trans rfl; have hcz16_1 : w15.cell? ⟨gb128, 1, none⟩ = some (.slice A0_1 l0_1.length c0_1) := (blk_cell BK128.out 1).trans rfl; have hcz16_2 : w15.cell? ⟨gb128, 2, none⟩ = some (.slice A0_2 l0_2.length c0_2) := (blk_cell BK128.out 2).trans rfl; have hfz16_0 := blk_frozen BK128.out 0; have hfz16_1 := blk_frozen BK128.out 1; have hfz16_2 := blk_frozen BK128.out 2) | ((with_reducible refine gate_callee (f := 34) rfl ?_); refine goesL_ (some 8) rfl rfl Try.func34 (by kernel_rfl) rfl #[.slice A0_0 l0_0.length c0_0, .int .i64 a1] rfl (by (try simp only [List.map_toArray, List.map_cons, List.map_nil]); first | done | rfl | (simp only [List.length_drop, List.length_take]; rfl)) ?_; (with_reducible refine (laws_heldNodeS.calls k _ _ l0_0 a1 t129 _ ?side1 ?side2 A3.out).mono ?_); (case side1 => repeat (first | exact (Kd.C_below HR0_0.out HB.out) | (with_reducible refine Kd.C_alloc ?_ _) | (with_reducible refine Kd.C_drewN ?_ _) | (with_reducible refine Kd.C_drew ?_))); (case side2 => exact HC0_0.out); rintro e w' ⟨rfl, ⟨nd, rfl⟩⟩; refine ⟨_, rfl, ?_⟩) | ((with_reducible refine gate_callee (f := 35) rfl ?_); refine goesL_ (some 14) rfl rfl Try.func35 (by kernel_rfl) rfl #[.slice A0_1 l0_1.length c0_1, .int .i64 t129] rfl (by (try simp only [List.map_toArray, List.map_cons, List.map_nil]); first | done | rfl | (simp only [List.length_drop, List.length_take]; rfl)) ?_; (with_reducible refine (laws_heldIntSS.calls k _ _ l0_1 t129 t130 _ ?side1 ?side2 A7.out).mono ?_); (case side1 => repeat (first | exact (Kd.C_below HR0_1.out (by repeat (first | (with_reducible first | exact HB.out | apply below_alloc | apply pw_below_drewN | apply below_drew1 | refine below_set ?_ GE128.out) | exact HB.out))) | (with_reducible refine Kd.C_alloc ?_ _) | (with_reducible refine Kd.C_drewN ?_ _) | (with_reducible refine Kd.C_drew ?_))); (case side2 => exact HC0_1.out); rintro e w' ⟨rfl, ⟨nd, rfl⟩⟩; refine ⟨_, rfl, ?_⟩) | ((with_reducible refine gate_callee (f := 26) rfl ?_); refine goesL_ (some 20) rfl rfl Try.func26 (by kernel_rfl) rfl #[.slice A0_2 l0_2.length c0_2, .int .i64 t130] rfl (by (try simp only [List.map_toArray, List.map_cons, List.map_nil]); first | done | rfl | (simp only [List.length_drop, List.length_take]; rfl)) ?_; (with_reducible refine (laws_heldIntS.calls k _ _ l0_2 t130 t131 _ ?side1 ?side2 A11.out).mono ?_); (case side1 => repeat (first | exact (Kd.C_below HR0_2.out (by repeat (first | (with_reducible first | exact HB.out | apply below_alloc | apply pw_below_drewN | apply below_drew1 | refine below_set ?_ GE128.out) | exact HB.out))) | (with_reducible refine Kd.C_alloc ?_ _) | (with_reducible refine Kd.C_drewN ?_ _) | (with_reducible refine Kd.C_drew ?_))); (case side2 => exact HC0_2.out); rintro e w' ⟨rfl, ⟨nd, rfl⟩⟩; refine ⟨_, rfl, ?_⟩))
        go_ret
        exact ⟨by first | rfl | (simp [errW_none, errW_some] <;> rfl) | (simp [*, errW_none, errW_some] <;> rfl), by repeat (first | (with_reducible first | exact HB.out | apply below_alloc | apply pw_below_drewN | apply below_drew1 | refine below_set ?_ GE128.out) | exact HB.out)⟩

/-! ### laws_FnExactGraphNew: function 3 -/
def laws_FnExactGraphNew.f (k : Nat) (a : Int) : Option Bool := (laws_eqGraph.f k (nRows a) (rRows a) [] (nRows a) (rRows a) []).bind fun e => (laws_markGraph.f k (nRows a) (rRows a) [] 1).bind fun m => (laws_heldGraph.f k m.2.1 m.2.2.1 m.2.2.2 1).bind fun h => if e = true ∧ ¬ h < 0 ∧ h = m.1 then some true else none
structure SpecIn (w w2 : World) (b3 : Nat) (E0 E1 : Option Addr) (d0 d1 : Nat) (a : Int) : Prop where
  below : Below w.heap.size w w2
  lt : b3 < w2.heap.size
  kx : w2.heap[b3]? = some (.cells #[.slice E0 (nRows a).length d0, .slice E1 (rRows a).length d1, .slice none 0 0] 26 (0, 0))
  C0 : Kd.C k50 w2 E0 (nRows a).length (nRows a)
  C1 : Kd.C (Kd.slice 3 (Kd.int .i64)) w2 E1 (rRows a).length (rRows a)
theorem law_spec {w w1 w2 : World} {E0 E1 : Option Addr} {d0 d1 : Nat} {a : Int} (hb : Below w.heap.size w w1) (c0 : Kd.C k50 w1 E0 (nRows a).length (nRows a)) (c1 : Kd.C (Kd.slice 3 (Kd.int .i64)) w1 E1 (rRows a).length (rRows a)) (h : w2 = w1.alloc (.cells #[.slice E0 (nRows a).length d0, .slice E1 (rRows a).length d1, .slice none 0 0] 26)) : SpecIn w w2 w1.heap.size E0 E1 d0 d1 a := by
  subst h
  exact ⟨below_alloc hb _, by rw [World.size_alloc]; omega, blk_new w1 _, Kd.C_below c0 (below_alloc (Below.refl _ _) _), Kd.C_below c1 (below_alloc (Below.refl _ _) _)⟩
theorem law_b3 {w w2 w3 : World} {b3 : Nat} {E0 E1 : Option Addr} {d0 d1 : Nat} {a : Int} (h : SpecIn w w2 b3 E0 E1 d0 d1 a) (hb : Below w2.heap.size w2 w3) (j : Nat) : w3.cell? ⟨b3, j, none⟩ = (#[Value.slice E0 (nRows a).length d0, .slice E1 (rRows a).length d1, .slice none 0 0] : Array Value)[j]? :=
  (hb.cell (p := ⟨b3, j, none⟩) h.lt).trans (blk_cell h.kx j)
theorem law_ne {w w2 w3 : World} {b3 : Nat} {E0 E1 : Option Addr} {d0 d1 : Nat} {a : Int} (h : SpecIn w w2 b3 E0 E1 d0 d1 a) (hb : Below w2.heap.size w2 w3) : (b3 = w3.heap.size) = False := by
  have h1 := h.lt
  have h2 := hb.size
  exact eq_false (by omega)
structure ImplIn (w2 W : World) (b5 m3 s3 : Nat) (v0 v1 : Value) (r1 : List S50) (r2 : List (List Int)) : Prop where
  below : Below w2.heap.size w2 W
  kx : W.heap[b5]? = some (.cells #[v0, v1, .slice none 0 0] 26 (0, 0))
  m0 : w2.heap.size ≤ m3
  m : m3 ≤ s3
  s : s3 ≤ b5
  S0 : Kd.S k50 50 W w2.heap.size (fun k => k < m3) v0 r1
  S1 : Kd.S (Kd.slice 3 (Kd.int .i64)) 24 W w2.heap.size (fun k => m3 ≤ k ∧ k < s3) v1 r2
theorem law_impl {w2 w3 w4 : World} {m3 : Nat} {v0 v1 : Value} {r1 : List S50} {r2 : List (List Int)} (h : GRows w2 w3 m3 v0 v1 r1 r2) (hw : w4 = w3.alloc (.cells #[v0, v1, .slice none 0 0] 26)) : ImplIn w2 w4 w3.heap.size m3 w3.heap.size v0 v1 r1 r2 := by
  subst hw
  exact ⟨below_alloc h.below _, blk_new w3 _, h.m0, h.m, Nat.le_refl _, Kd.S_alloc h.S0 _, Kd.S_alloc h.S1 _⟩
theorem ImplIn.step {w2 W W' : World} {b5 m3 s3 : Nat} {v0 v1 : Value} {r1 : List S50} {r2 : List (List Int)} (h : ImplIn w2 W b5 m3 s3 v0 v1 r1 r2) (hb : Below W.heap.size W W') : ImplIn w2 W' b5 m3 s3 v0 v1 r1 r2 :=
  ⟨below_step h.below hb, blk_below h.kx hb, h.m0, h.m, h.s, Kd.S_below h.S0 hb, Kd.S_below h.S1 hb⟩
theorem law_eq (k : Nat) {w w2 wb W : World} {b3 b5 m3 s3 : Nat} {E0 E1 F0 F1 : Option Addr} {d0 d1 f0 f1 : Nat} {a : Int} (h : SpecIn w w2 b3 E0 E1 d0 d1 a) (p0 : (nRows a).length ≤ d0) (p1 : (rRows a).length ≤ d1) (hB : Below w2.heap.size w2 W) (g : ImplIn wb W b5 m3 s3 (.slice F0 (nRows a).length f0) (.slice F1 (rRows a).length f1) (nRows a) (rRows a)) (l0 : (nRows a).length ≤ f0) (l1 : (rRows a).length ≤ f1) (he : laws_eqGraph.f k (nRows a) (rRows a) [] (nRows a) (rRows a) [] = some true) :
    Calls Try.prog 10 #[.agg #[.slice F0 (nRows a).length f0, .slice F1 (rRows a).length f1, .slice none 0 0], .agg #[.slice E0 (nRows a).length d0, .slice E1 (rRows a).length d1, .slice none 0 0]] W fun e w' => e = .returned (.bool true) ∧ Below W.heap.size W w' :=
  laws_eqGraph.calls k F0 f0 (nRows a) F1 f1 (rRows a) none 0 [] E0 d0 (nRows a) E1 d1 (rRows a) none 0 [] true W (Kd.S_reads' g.S0).2.2 l0 (Kd.S_reads' g.S1).2.2 l1 (Kd.C_nil _ _) (Nat.le_refl _) (Kd.C_below h.C0 hB) p0 (Kd.C_below h.C1 hB) p1 (Kd.C_nil _ _) (Nat.le_refl _) he
structure MarkIn (w2 W : World) (b5 : Nat) (v0 v1 : Value) (q1 : List S50) (q2 : List (List Int)) (q3 : List Int) : Prop where
  below : Below w2.heap.size w2 W
  kx : W.heap[b5]? = some (.cells #[v0, v1, .slice none 0 0] 26 (0, 0))
  S0 : Kd.S k50 50 W w2.heap.size (fun _ => True) v0 q1
  S1 : Kd.S (Kd.slice 3 (Kd.int .i64)) 24 W w2.heap.size (fun _ => True) v1 q2
  R2 : Kd.R (Kd.int .i64) 3 W w2.heap.size (fun _ => True) (.slice none 0 0) q3
theorem MarkIn.step {w2 W W' : World} {b5 : Nat} {v0 v1 : Value} {q1 : List S50} {q2 : List (List Int)} {q3 : List Int} (h : MarkIn w2 W b5 v0 v1 q1 q2 q3) (hb : Below W.heap.size W W') : MarkIn w2 W' b5 v0 v1 q1 q2 q3 :=
  ⟨below_step h.below hb, blk_below h.kx hb, Kd.S_below h.S0 hb, Kd.S_below h.S1 hb, Kd.R_below h.R2 hb⟩
theorem law_mark (k : Nat) {w2 W : World} {b5 m3 s3 : Nat} {v0 v1 : Value} {r1 : List S50} {r2 : List (List Int)} {mk : Int} {q1 : List S50} {q2 : List (List Int)} {q3 : List Int} (g : ImplIn w2 W b5 m3 s3 v0 v1 r1 r2) (h : laws_markGraph.f k r1 r2 [] 1 = some (mk, q1, q2, q3)) :
    Calls Try.prog 11 #[.agg #[v0, v1, .slice none 0 0], .int .i64 1] W fun e w' => e = .returned (.int .i64 mk) ∧ MarkIn w2 w' b5 v0 v1 q1 q2 q3 := by
  have h1 := blk_lt g.kx
  have h2 := g.s
  refine (laws_markGraph.calls k m3 s3 v0 v1 (.slice none 0 0) r1 r2 [] 1 mk q1 q2 q3 s3 w2 W g.below g.m0 g.m (Nat.le_refl _) (by omega) g.S0 g.S1 (Kd.R_nil _ _ _ _ _) h).mono ?_
  rintro e w' ⟨rfl, hb, hk, h0, h1', h2'⟩
  exact ⟨rfl, hb, (hk.2 b5 h1 (fun a => by omega)).trans g.kx, h0, h1', h2'⟩
theorem law_held (k : Nat) {w2 W : World} {b5 : Nat} {F0 F1 : Option Addr} {n0 n1 f0 f1 : Nat} {q1 : List S50} {q2 : List (List Int)} {q3 : List Int} {hd : Int} (m : MarkIn w2 W b5 (.slice F0 n0 f0) (.slice F1 n1 f1) q1 q2 q3) (h : laws_heldGraph.f k q1 q2 q3 1 = some hd) :
    Calls Try.prog 12 #[.agg #[.slice F0 n0 f0, .slice F1 n1 f1, .slice none 0 0], .int .i64 1] W fun e w' => e = .returned (.int .i64 hd) ∧ Below W.heap.size W w' := by
  obtain ⟨e0, l0, c0⟩ := Kd.S_reads' m.S0
  obtain ⟨e1, l1, c1⟩ := Kd.S_reads' m.S1
  obtain ⟨e2, l2, c2⟩ := Kd.R_reads' m.R2
  have hc := laws_heldGraph.calls k F0 f0 q1 F1 f1 q2 none 0 q3 1 hd W c0 (by omega) c1 (by omega) c2 (by omega) h
  rw [← e0, ← e1, ← e2] at hc
  exact hc
set_option maxHeartbeats 8000000 in
set_option maxRecDepth 100000 in
theorem laws_FnExactGraphNew.calls (k : Nat) (a : Int) (r : Bool) (w : World) (h : laws_FnExactGraphNew.f k a = some r) : Calls Try.prog 3 #[.int .i64 a] w fun e w' => e = .returned (.bool r) ∧ Below w.heap.size w w' := by
  obtain ⟨e1, FE, h⟩ := Option.bind_eq_some_iff.1 h
  obtain ⟨⟨mk, q1, q2, q3⟩, FM, h⟩ := Option.bind_eq_some_iff.1 h
  obtain ⟨hd, FH, h⟩ := Option.bind_eq_some_iff.1 h
  by_cases hc : e1 = true ∧ ¬ hd < 0 ∧ hd = mk
  · rw [if_pos hc] at h
    obtain rfl := Option.some.inj h
    obtain ⟨rfl, hh, rfl⟩ := hc
    have hhd : decide (hd < 0) = false := decide_eq_false hh
    have AE := Aside0.mk FE
    have AM := Aside0.mk FM
    have AH := Aside0.mk FH
    clear FE FM FH h hh
    have T1 := Aside0.mk trivial
    have T2 := Aside0.mk trivial
    have T3 := Aside0.mk trivial
    have hn : (okN a != okN a) = false := by cases okN a <;> rfl
    go_enter Try.func3, Try.ntmps3
    go_wp2_with (first
      | (go_at_call 8; refine (specNew_any a w).mono ?_; rintro e w1 ⟨m1, v0, v1, rfl, hg⟩; obtain ⟨E0, d0, e0, le0, ce0⟩ := Kd.S_reads hg.S0; obtain ⟨E1, d1, e1, le1, ce1⟩ := Kd.S_reads hg.S1; subst e0; subst e1; have PL0 := Aside0.mk le0; have PL1 := Aside0.mk le1; have PC0 := Aside0.mk ce0; have PC1 := Aside0.mk ce1; have B1 := Aside0.mk hg.below; clear hg le0 le1 ce0 ce1; obtain ⟨w2, hw2⟩ : ∃ w2, w2 = w1.alloc (.cells #[.slice E0 (nRows a).length d0, .slice E1 (rRows a).length d1, .slice none 0 0] 26) := ⟨_, rfl⟩; have D2 := Aside0.mk (law_spec B1.out PC0.out PC1.out hw2); have cg := graphNew_any a w2; clear PC0 PC1 B1)
      | (clear T1; go_at_call 9; rw [← hw2]; refine cg.mono ?_; rintro e w3 ⟨m3, x0, x1, rfl, hg⟩; obtain ⟨F0, f0, e0, le0, ce0⟩ := Kd.S_reads hg.S0; obtain ⟨F1, f1, e1, le1, ce1⟩ := Kd.S_reads hg.S1; subst e0; subst e1; obtain ⟨w4, hw4⟩ : ∃ w4, w4 = w3.alloc (.cells #[.slice F0 (nRows a).length f0, .slice F1 (rRows a).length f1, .slice none 0 0] 26) := ⟨_, rfl⟩; have GI := Aside0.mk (law_impl hg hw4); have LE := Aside0.mk (And.intro le0 le1); have ZZ := Aside0.mk (And.intro hg.m0 hg.m); have j0 := (law_b3 D2.out (below_alloc hg.below (.cells #[.slice F0 (nRows a).length f0, .slice F1 (rRows a).length f1, .slice none 0 0] 26)) 0).trans (show _ = some (Value.slice E0 (nRows a).length d0) from rfl); have j1 := (law_b3 D2.out (below_alloc hg.below (.cells #[.slice F0 (nRows a).length f0, .slice F1 (rRows a).length f1, .slice none 0 0] 26)) 1).trans (show _ = some (Value.slice E1 (rRows a).length d1) from rfl); have j2 := (law_b3 D2.out (below_alloc hg.below (.cells #[.slice F0 (nRows a).length f0, .slice F1 (rRows a).length f1, .slice none 0 0] 26)) 2).trans (show _ = some (Value.slice none 0 0) from rfl); clear cg hg ce0 ce1 le0 le1; have cq := law_eq k D2.out PL0.out PL1.out GI.out.below GI.out LE.out.1 LE.out.2 AE.out)
      | (clear T2; go_at_call 10; rw [← hw4]; refine cq.mono ?_; rintro e w5 ⟨rfl, hb5⟩; have GI5 := Aside0.mk (GI.out.step hb5); clear GI; have cm := law_mark k GI5.out AM.out; have y0 := (blk_cell GI5.out.kx 0).trans (show _ = some (Value.slice F0 (nRows a).length f0) from rfl); have y1 := (blk_cell GI5.out.kx 1).trans (show _ = some (Value.slice F1 (rRows a).length f1) from rfl); have y2 := (blk_cell GI5.out.kx 2).trans (show _ = some (Value.slice none 0 0) from rfl); clear cq hb5 j0 j1 j2)
      | (go_at_call 11; refine cm.mono ?_; rintro e w6 ⟨rfl, hm⟩; have MI := Aside0.mk hm; clear GI5 cm hm y0 y1 y2; have ch := law_held k MI.out AH.out; have y0 := (blk_cell MI.out.kx 0).trans (show _ = some (Value.slice F0 (nRows a).length f0) from rfl); have y1 := (blk_cell MI.out.kx 1).trans (show _ = some (Value.slice F1 (rRows a).length f1) from rfl); have y2 := (blk_cell MI.out.kx 2).trans (show _ = some (Value.slice none 0 0) from rfl))
      | (clear T3; go_at_call 12; refine ch.mono ?_; rintro e w7 ⟨rfl, hb7⟩; have MI7 := Aside0.mk (MI.out.step hb7); clear MI ch hb7 y0 y1 y2; have cg := graphNew_any a w7)
      | (go_at_call 9; refine cg.mono ?_; rintro e w8 ⟨m8, x0, x1, rfl, hg⟩; obtain ⟨G0, g0, e0, le0, ce0⟩ := Kd.S_reads hg.S0; obtain ⟨G1, g1, e1, le1, ce1⟩ := Kd.S_reads hg.S1; subst e0; subst e1; obtain ⟨w9, hw9⟩ : ∃ w9, w9 = w8.alloc (.cells #[.slice G0 (nRows a).length g0, .slice G1 (rRows a).length g1, .slice none 0 0] 26) := ⟨_, rfl⟩; have hb9 : Below w7.heap.size w7 w9 := by rw [hw9]; exact below_alloc hg.below _
         have j0 := (law_b3 D2.out (below_step MI7.out.below (below_alloc hg.below (.cells #[.slice G0 (nRows a).length g0, .slice G1 (rRows a).length g1, .slice none 0 0] 26))) 0).trans (show _ = some (Value.slice E0 (nRows a).length d0) from rfl); have j1 := (law_b3 D2.out (below_step MI7.out.below (below_alloc hg.below (.cells #[.slice G0 (nRows a).length g0, .slice G1 (rRows a).length g1, .slice none 0 0] 26))) 1).trans (show _ = some (Value.slice E1 (rRows a).length d1) from rfl); have j2 := (law_b3 D2.out (below_step MI7.out.below (below_alloc hg.below (.cells #[.slice G0 (nRows a).length g0, .slice G1 (rRows a).length g1, .slice none 0 0] 26))) 2).trans (show _ = some (Value.slice none 0 0) from rfl); have MI9 := Aside0.mk (MI7.out.step hb9); have cq := law_eq k D2.out PL0.out PL1.out MI9.out.below (law_impl hg hw9) le0 le1 AE.out; clear cg hg ce0 ce1 le0 le1 MI7 hb9)
      | (go_at_call 10; rw [← hw9]; refine cq.mono ?_; rintro e w10 ⟨rfl, hb10⟩; have MI10 := Aside0.mk (MI9.out.step hb10); clear MI9 hb10 cq j0 j1 j2; have ch := law_held k MI10.out AH.out; have y0 := (blk_cell MI10.out.kx 0).trans (show _ = some (Value.slice F0 (nRows a).length f0) from rfl); have y1 := (blk_cell MI10.out.kx 1).trans (show _ = some (Value.slice F1 (rRows a).length f1) from rfl); have y2 := (blk_cell MI10.out.kx 2).trans (show _ = some (Value.slice none 0 0) from rfl))
      | (go_at_call 12; refine ch.mono ?_; rintro e w11 ⟨rfl, hb11⟩; have MI11 := Aside0.mk (MI10.out.step hb11); clear MI10 ch hb11 y0 y1 y2))
    go_ret
    exact ⟨rfl, below_step D2.out.below MI11.out.below⟩
  · rw [if_neg hc] at h
    cases h

end Go.Proofs.Ytdaikmojalfimaa.QFnExactGraphNew
