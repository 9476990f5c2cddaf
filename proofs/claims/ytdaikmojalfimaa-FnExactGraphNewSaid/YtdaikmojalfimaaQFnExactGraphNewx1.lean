-- Written by a program of this session that drives the print of the kit, with contracts of its own beside the printed ones. Lean checks it.
import Derived.Test.YtdaikmojalfimaaQFnExactGraphNewx0
namespace Go.Proofs.Ytdaikmojalfimaa.QFnExactGraphNew
open Go.RowKit Go.Proofs.YtdaikmojalfimaaW.PrintWords Go.Proofs.YtdaikmojalfimaaW.PrintLast Go.Proofs.YtdaikmojalfimaaW.PrintMore
attribute [local go_sem] max2_int min2_int max_two min_two max_three min_three max_four min_four   -- for this text's walks alone
set_option linter.unusedVariables false
set_option linter.unusedSimpArgs false

/-! ### spec_GraphNew: function 8 -/
def spec_GraphNew.f (n : Int) : Option (List Int) := none

/-! ### bits_Mul32: function 63 -/
def bits_Mul32.f (a0 : Int) (a1 : Int) : Option (Int × Int) := some (((IntKind.u64.wrap ((IntKind.u64.wrap (a0)) * (IntKind.u64.wrap (a1)))) / 4294967296) % 4294967296, (IntKind.u64.wrap ((IntKind.u64.wrap (a0)) * (IntKind.u64.wrap (a1)))) % 4294967296)
set_option maxHeartbeats 8000000 in
set_option maxRecDepth 100000 in
theorem bits_Mul32.calls (a0 : Int) (a1 : Int) (r1 : Int) (r2 : Int) (w : World) (h : bits_Mul32.f a0 a1 = some (r1, r2)) :
    Calls Try.prog 63 #[.int .u32 a0, .int .u32 a1] w fun e w' => e = .returned (.tuple #[.int .u32 r1, .int .u32 r2]) ∧ Drawn0 w w' := by
  have H : (some (((IntKind.u64.wrap ((IntKind.u64.wrap (a0)) * (IntKind.u64.wrap (a1)))) / 4294967296) % 4294967296, (IntKind.u64.wrap ((IntKind.u64.wrap (a0)) * (IntKind.u64.wrap (a1)))) % 4294967296)) = some (r1, r2) := h
  clear h
  simp only [Option.some.injEq, Prod.mk.injEq] at H
  obtain ⟨rfl, rfl⟩ := H
  go_enter Try.func63, Try.ntmps63
  go_wp2
  go_ret2
  exact ⟨by first | rfl | (simp; done) | (simp [*]; done), by repeat (first | exact Drawn0.refl _ | apply Drawn0.step)⟩

/-! ### bits_Mul64: function 64 -/
def bits_Mul64.f (a0 : Int) (a1 : Int) : Option (Int × Int) := some (IntKind.u64.wrap ((IntKind.u64.wrap ((IntKind.u64.wrap ((a0 / 4294967296) * (a1 / 4294967296))) + ((IntKind.u64.wrap ((IntKind.u64.wrap ((a0 / 4294967296) * (Go.bits .and .u64 a1 4294967295))) + ((IntKind.u64.wrap ((Go.bits .and .u64 a0 4294967295) * (Go.bits .and .u64 a1 4294967295))) / 4294967296))) / 4294967296))) + ((IntKind.u64.wrap ((Go.bits .and .u64 (IntKind.u64.wrap ((IntKind.u64.wrap ((a0 / 4294967296) * (Go.bits .and .u64 a1 4294967295))) + ((IntKind.u64.wrap ((Go.bits .and .u64 a0 4294967295) * (Go.bits .and .u64 a1 4294967295))) / 4294967296))) 4294967295) + (IntKind.u64.wrap ((Go.bits .and .u64 a0 4294967295) * (a1 / 4294967296))))) / 4294967296)), IntKind.u64.wrap (a0 * a1))
set_option maxHeartbeats 8000000 in
set_option maxRecDepth 100000 in
theorem bits_Mul64.calls (a0 : Int) (a1 : Int) (r1 : Int) (r2 : Int) (w : World) (h : bits_Mul64.f a0 a1 = some (r1, r2)) :
    Calls Try.prog 64 #[.int .u64 a0, .int .u64 a1] w fun e w' => e = .returned (.tuple #[.int .u64 r1, .int .u64 r2]) ∧ Drawn0 w w' := by
  have H : (some (IntKind.u64.wrap ((IntKind.u64.wrap ((IntKind.u64.wrap ((a0 / 4294967296) * (a1 / 4294967296))) + ((IntKind.u64.wrap ((IntKind.u64.wrap ((a0 / 4294967296) * (Go.bits .and .u64 a1 4294967295))) + ((IntKind.u64.wrap ((Go.bits .and .u64 a0 4294967295) * (Go.bits .and .u64 a1 4294967295))) / 4294967296))) / 4294967296))) + ((IntKind.u64.wrap ((Go.bits .and .u64 (IntKind.u64.wrap ((IntKind.u64.wrap ((a0 / 4294967296) * (Go.bits .and .u64 a1 4294967295))) + ((IntKind.u64.wrap ((Go.bits .and .u64 a0 4294967295) * (Go.bits .and .u64 a1 4294967295))) / 4294967296))) 4294967295) + (IntKind.u64.wrap ((Go.bits .and .u64 a0 4294967295) * (a1 / 4294967296))))) / 4294967296)), IntKind.u64.wrap (a0 * a1))) = some (r1, r2) := h
  clear h
  simp only [Option.some.injEq, Prod.mk.injEq] at H
  obtain ⟨rfl, rfl⟩ := H
  go_enter Try.func64, Try.ntmps64
  go_wp2
  go_ret2
  exact ⟨by first | rfl | (simp; done) | (simp [*]; done), by repeat (first | exact Drawn0.refl _ | apply Drawn0.step)⟩

/-! ### bits_Mul: function 60 -/
def bits_Mul.f (a0 : Int) (a1 : Int) : Option (Int × Int) := (bits_Mul64.f a0 a1).bind fun bt101 => (some (bt101.1, bt101.2))
set_option maxHeartbeats 8000000 in
set_option maxRecDepth 100000 in
theorem bits_Mul.calls (a0 : Int) (a1 : Int) (r1 : Int) (r2 : Int) (w : World) (h : bits_Mul.f a0 a1 = some (r1, r2)) :
    Calls Try.prog 60 #[.int .u64 a0, .int .u64 a1] w fun e w' => e = .returned (.tuple #[.int .u64 r1, .int .u64 r2]) ∧ Drawn0 w w' := by
  have H : ((bits_Mul64.f a0 a1).bind fun bt101 => (some (bt101.1, bt101.2))) = some (r1, r2) := h
  clear h
  replace H := Option.bind_eq_some_iff.mp H
  obtain ⟨⟨t101, t102⟩, A30, H⟩ := H
  replace H : (some (t101, t102)) = some (r1, r2) := H
  have A3 := Aside0.mk A30
  clear A30
  simp only [Option.some.injEq, Prod.mk.injEq] at H
  obtain ⟨rfl, rfl⟩ := H
  go_enter Try.func60, Try.ntmps60
  go_wp2_with (first | ((with_reducible refine gate_callee (f := 64) rfl ?_); refine goesL_ (some 25) rfl rfl Try.func64 (by kernel_rfl) rfl #[.int .u64 a0, .int .u64 a1] rfl (by (try simp only [List.map_toArray, List.map_cons, List.map_nil]); first | done | rfl | (simp only [List.length_drop, List.length_take]; rfl)) ?_; (with_reducible refine (bits_Mul64.calls a0 a1 t101 t102 _ A3.out).mono ?_); rintro e w' ⟨rfl, ⟨nd, rfl⟩⟩; refine ⟨_, rfl, ?_⟩))
  go_ret2
  exact ⟨by first | rfl | (simp; done) | (simp [*]; done), by repeat (first | exact Drawn0.refl _ | apply Drawn0.step)⟩

/-! ### slices_Repeat_int_int: function 51 -/
def slices_Repeat_int_int.f (l : List Int) (n : Int) : Option (List Int) := none
def repCells (n : Nat) : List Value := if n = 1 then [.int .i64 (-1), .int .i64 0, .int .i64 0, .int .i64 0] else if n = 2 then [.int .i64 (-1), .int .i64 (-1), .int .i64 0, .int .i64 0] else [.int .i64 (-1), .int .i64 (-1), .int .i64 (-1), .int .i64 (-1)]
structure RepAt (w0 W : World) (g n : Nat) : Prop where
  below : Below w0.heap.size w0 W
  ge : w0.heap.size ≤ g
  row : W.heap[g]? = some (.cells (repCells n).toArray 3 (0, 0))
theorem rep_rows : (Try.prog.info? 3).map (·.size) = some 1 := by kernel_rfl
theorem rep_make : ∀ (W : World), (Instr.makeSlice 24 (.int .i64 4) (.int .i64 4)).run Try.prog W = .ok (.slice (some ⟨W.heap.size, 0, none⟩) 4 4) (W.alloc (.cells #[.int .i64 0, .int .i64 0, .int .i64 0, .int .i64 0] 3)) := fun _ => by kernel_rfl
set_option maxHeartbeats 4000000 in
theorem repeat_calls (bx : Nat) (w : World) (hx : w.cell? ⟨bx, 0, none⟩ = some (.int .i64 (-1))) (hbx : bx < w.heap.size) :
    Calls Try.prog 51 #[.slice (some ⟨bx, 0, none⟩) 1 1, .int .i64 4] w fun e w' => ∃ g, e = .returned (.slice (some ⟨g, 0, none⟩) 4 4) ∧ RepAt w w' g 4 := by
  have HX := Aside0.mk hx
  have HBX := Aside0.mk hbx
  clear hx hbx
  have hmk := rep_make
  go_enter Try.func51, Try.ntmps51
  go_wp2_with (first
    | (go_at_call 60; refine (bits_Mul.calls 1 4 0 4 _ rfl).mono ?_; rintro e w2 ⟨rfl, hd⟩; have B2 := Aside0.mk (show Below w.heap.size w w2 from (by obtain ⟨nd, hd⟩ := hd; rw [hd]; exact pw_below_drewN (Below.refl _ _) nd)); clear hd)
    | ((with_reducible refine gate_builtin (b := .copy) (xs := #[.tmp 31, .tmp 32]) rfl ?_); refine wpList_copy_splice rfl (.tmp 31) (.tmp 32) 24 24 rfl 3 Try.underlying24 rep_rows (some ⟨w2.heap.size, 0, none⟩) (some ⟨bx, 0, none⟩) 4 4 1 1 rfl rfl w2.heap.size 0 [.int .i64 0, .int .i64 0, .int .i64 0, .int .i64 0] 3 (blk_new w2 _) [.int .i64 (-1)] rfl (fun _ => ⟨rfl, _, rfl, fun j v hv => by cases j with | zero => (cases hv; exact Lib.cell?_alloc_some _ ((B2.out.cell (p := ⟨bx, 0, none⟩) HBX.out).trans HX.out)) | succ j => cases hv⟩) (by decide) (fun v hv => by cases hv with | head => rfl | tail _ h => cases h) w.heap.size w (below_alloc B2.out _) B2.out.size ?_; intro w3 hr3 hb3; have R3 := Aside0.mk (show RepAt w w3 w2.heap.size 1 from ⟨hb3, B2.out.size, hr3.out⟩); clear hr3 hb3 hmk))
  go_loopg [8] 3 (fun gg v8 wr => ∃ n : Nat, v8 = .int .i64 (n : Int) ∧ Aside0 ((n = 1 ∧ 2 ≤ gg) ∨ (n = 2 ∧ 1 ≤ gg) ∨ n = 4) ∧ Aside0 (RepAt w wr w2.heap.size n))
  case atStart => exact ⟨1, rfl, ⟨Or.inl ⟨rfl, by omega⟩⟩, R3⟩
  case round =>
    clear R3
    obtain ⟨n, rfl, HN, R⟩ := hrel
    rcases HN.out with ⟨rfl, hg⟩ | ⟨rfl, hg⟩ | rfl
    · go_wp2
      go_region_law (refine step_copy_splice rfl (.tmp 41) (.tmp 44) 24 24 rfl 3 Try.underlying24 rep_rows (some ⟨w2.heap.size, 1, none⟩) (some ⟨w2.heap.size, 0, none⟩) 3 3 1 4 (by simp [Act.eval, Act.put]) (by simp [Act.eval, Act.put]) w2.heap.size 1 [.int .i64 (-1), .int .i64 0, .int .i64 0, .int .i64 0] 3 R.out.row [.int .i64 (-1)] rfl (fun _ => ⟨rfl, _, rfl, fun j v hv => by cases j with | zero => (cases hv; exact (blk_cell R.out.row 0).trans rfl) | succ j => cases hv⟩) (by decide) (fun v hv => by cases hv with | head => rfl | tail _ h => cases h) w.heap.size w (below_drew1 R.out.below) R.out.ge ?_; intro w4 hr4 hb4; have R4 := Aside0.mk (show RepAt w w4 w2.heap.size 2 from ⟨hb4, B2.out.size, hr4.out⟩); clear hr4 hb4 R)
      all_goals
        go_wp2
        go_roundg 1
        case measure => omega
        case rel => exact ⟨2, rfl, ⟨Or.inr (Or.inl ⟨rfl, by omega⟩)⟩, R4⟩
    · go_wp2
      go_region_law (refine step_copy_splice rfl (.tmp 41) (.tmp 44) 24 24 rfl 3 Try.underlying24 rep_rows (some ⟨w2.heap.size, 2, none⟩) (some ⟨w2.heap.size, 0, none⟩) 2 2 2 4 (by simp [Act.eval, Act.put]) (by simp [Act.eval, Act.put]) w2.heap.size 2 [.int .i64 (-1), .int .i64 (-1), .int .i64 0, .int .i64 0] 3 R.out.row [.int .i64 (-1), .int .i64 (-1)] rfl (fun _ => ⟨rfl, _, rfl, fun j v hv => by cases j with | zero => (cases hv; exact (blk_cell R.out.row 0).trans rfl) | succ j => (cases j with | zero => (cases hv; exact (blk_cell R.out.row 1).trans rfl) | succ j => cases hv)⟩) (by decide) (fun v hv => by cases hv with | head => rfl | tail _ h => (cases h with | head => rfl | tail _ h => cases h)) w.heap.size w (below_drew1 R.out.below) R.out.ge ?_; intro w4 hr4 hb4; have R4 := Aside0.mk (show RepAt w w4 w2.heap.size 4 from ⟨hb4, B2.out.size, hr4.out⟩); clear hr4 hb4 R)
      all_goals
        go_wp2
        go_roundg 0
        case measure => omega
        case rel => exact ⟨4, rfl, ⟨Or.inr (Or.inr rfl)⟩, R4⟩
    · go_wp2
      go_ret
      exact ⟨w2.heap.size, rfl, R.out⟩

/-! ### impl_none: function 29 -/
def impl_none.f (n : Int) : Option (List Int) := if n = 4 then some [-1, -1, -1, -1] else none
theorem none_calls (w : World) : Calls Try.prog 29 #[.int .i64 4] w fun e w' => ∃ g, e = .returned (.slice (some ⟨g, 0, none⟩) 4 4) ∧ RepAt w w' g 4 := by
  obtain ⟨w1, hw1⟩ : ∃ w1, w1 = w.alloc (.cells #[.int .i64 (-1)] 3) := ⟨_, rfl⟩
  have hb1 : Below w.heap.size w w1 := by rw [hw1]; exact below_alloc (Below.refl _ _) _
  have cr := repeat_calls w.heap.size w1 (by rw [hw1]; exact (blk_cell (blk_new w _) 0).trans rfl) (by rw [hw1]; simp)
  have B1 := Aside0.mk hb1
  clear hb1
  go_enter Try.func29, Try.ntmps29
  go_wp2_with (go_at_call 51; rw [← hw1]; refine cr.mono ?_; rintro e w2 ⟨g, rfl, hr⟩; have R := Aside0.mk hr; clear hr cr)
  go_ret
  exact ⟨g, rfl, ⟨below_step B1.out R.out.below, Nat.le_trans B1.out.size R.out.ge, R.out.row⟩⟩

/-! ### impl_GraphNew: function 9 -/
def impl_GraphNew.f (n : Int) : Option (List Int) := none
theorem bcellA {W w1 : World} (hb : Below W.heap.size W w1) : (∀ b o, b < W.heap.size → w1.cell? ⟨b, o, none⟩ = W.cell? ⟨b, o, none⟩) ∧ (∀ b o, b < W.heap.size → w1.frozen? ⟨b, o, none⟩ = W.frozen? ⟨b, o, none⟩) :=
  ⟨fun b o h => hb.cell (p := ⟨b, o, none⟩) h, fun b o h => hb.frozen (p := ⟨b, o, none⟩) h⟩
structure NewInv (w0 W : World) (b4 gr g g2 : Nat) : Prop where
  below : Below w0.heap.size w0 W
  k0 : W.heap[w0.heap.size]? = some (.cells #[.slice none 0 0, .slice none 0 0, .slice none 0 0] 26 (0, 0))
  k4 : W.heap[b4]? = some (.cells #[.slice (some ⟨gr, 0, none⟩) 1 1, .slice none 0 0, .slice none 0 0] 26 (0, 0))
  kr : W.heap[gr]? = some (.cells #[.slice (some ⟨g, 0, none⟩) 4 4, .slice (some ⟨g2, 0, none⟩) 2 2] 50 (0, 0))
  kg : W.heap[g]? = some (.cells (repCells 4).toArray 3 (0, 0))
  k2 : W.heap[g2]? = some (.cells #[.int .i64 0, .int .i64 0] 3 (0, 0))
  n4 : w0.heap.size < b4
  nr : w0.heap.size < gr
  ng : w0.heap.size < g
  n2 : w0.heap.size < g2
  ne : g ≠ g2
theorem heap_alloc (W : World) (o : Obj) (k : Nat) : (W.alloc o).heap[k]? = if k = W.heap.size then some o else W.heap[k]? := by
  show (W.heap.push o)[k]? = _
  rw [Array.getElem?_push]
theorem heap_set3 {W : World} {g k : Nat} (h : k ≠ g) (u0 u1 u2 : Value) : (((W.setCell ⟨g, 0, none⟩ u0).setCell ⟨g, 1, none⟩ u1).setCell ⟨g, 2, none⟩ u2).heap[k]? = W.heap[k]? :=
  (Deep.blk_setCell_other _ ⟨g, 2, none⟩ u2 k h).trans ((Deep.blk_setCell_other _ ⟨g, 1, none⟩ u1 k h).trans (Deep.blk_setCell_other W ⟨g, 0, none⟩ u0 k h))
theorem heap_put3 {W : World} {g : Nat} (v : Value) (h : W.heap[g]? = some (.cells #[.slice none 0 0, .slice none 0 0, .slice none 0 0] 26 (0, 0))) : (((W.setCell ⟨g, 0, none⟩ v).setCell ⟨g, 1, none⟩ (.slice none 0 0)).setCell ⟨g, 2, none⟩ (.slice none 0 0)).heap[g]? = some (.cells #[v, .slice none 0 0, .slice none 0 0] 26 (0, 0)) :=
  blk_put (blk_put (blk_put h 0 _ rfl) 1 _ rfl) 2 _ rfl
theorem new_mk {w w1 W0 w2 X : World} {b4 gr g g2 : Nat} (hw1 : w1 = w.alloc (.cells #[.slice none 0 0, .slice none 0 0, .slice none 0 0] 26)) (hW0 : Below w1.heap.size w1 W0) (R : RepAt W0 w2 g 4)
    (h4 : X.heap[b4]? = some (.cells #[.slice (some ⟨gr, 0, none⟩) 1 1, .slice none 0 0, .slice none 0 0] 26 (0, 0)))
    (hr : X.heap[gr]? = some (.cells #[.slice (some ⟨g, 0, none⟩) 4 4, .slice (some ⟨g2, 0, none⟩) 2 2] 50 (0, 0)))
    (h2 : X.heap[g2]? = some (.cells #[.int .i64 0, .int .i64 0] 3 (0, 0)))
    (hX : ∀ k, k < w2.heap.size → k ≠ b4 → X.heap[k]? = w2.heap[k]?) (hXB : Below w1.heap.size w1 X)
    (n4 : w1.heap.size ≤ b4) (nr : w1.heap.size ≤ gr) (n2 : w1.heap.size ≤ g2) (d4 : b4 < W0.heap.size ∨ w2.heap.size ≤ b4) (d2 : g2 < W0.heap.size ∨ w2.heap.size ≤ g2) : NewInv w X b4 gr g g2 := by
  have hs : w1.heap.size = w.heap.size + 1 := by rw [hw1]; simp
  have hb1 : Below w.heap.size w w1 := by rw [hw1]; exact below_alloc (Below.refl _ _) _
  have hg := blk_lt R.row
  have hge := R.ge
  have h0 := hW0.size
  refine ⟨below_step hb1 hXB, ?_, h4, hr, ?_, h2, by omega, by omega, by omega, by omega, by omega⟩
  · rw [hXB.block _ (by omega), hw1]
    exact blk_new w _
  · rw [hX g hg (by omega)]
    exact R.row
structure GLoop (w0 W : World) (b4 m1 : Nat) (v0 vc v1 : Value) (rr : List (List Int)) : Prop where
  below : Below w0.heap.size w0 W
  k0 : W.heap[w0.heap.size]? = some (.cells #[.slice none 0 0, .slice none 0 0, .slice none 0 0] 26 (0, 0))
  k4 : W.heap[b4]? = some (.cells #[v0, vc, .slice none 0 0] 26 (0, 0))
  n4 : w0.heap.size < b4
  m0 : w0.heap.size ≤ m1
  m : m1 ≤ W.heap.size
  S0 : Kd.S k50 50 W w0.heap.size (fun k => k < m1) v0 [⟨[-1, -1, -1, -1], [0, 0]⟩]
  S1 : Kd.S (Kd.slice 3 (Kd.int .i64)) 24 W w0.heap.size (fun k => m1 ≤ k) v1 rr
theorem int_row {W : World} {base g n : Nat} {xs : List Int} (hk : W.heap[g]? = some (.cells (xs.map (Value.int .i64)).toArray 3 (0, 0))) (hb : base ≤ g) (hn : n = xs.length) (hl : xs.length ≤ 1000) (ok : Nat → Prop) (ho : ok g) : Kd.R (Kd.int .i64) 3 W base ok (.slice (some ⟨g, 0, none⟩) n n) xs := by
  subst hn
  refine Kd.R_of_own (enc := Value.int .i64) (h1 := fun _ => rfl) ⟨by simp [encs], Or.inr ⟨g, xs.length, (xs.map (Value.int .i64)).toArray, rfl, hb, hk, Nat.le_refl _, ?_, by simp, ?_⟩⟩ (fun k hk => ?_)
  · have : maxLen = 9223372036854775807 := rfl
    omega
  · simp [encs]
    exact List.take_of_length_le (by simp)
  · obtain rfl : g = k := by simpa [Value.ownBlock] using hk
    exact ho
theorem new_loop {w W : World} {b4 gr g g2 : Nat} (h : NewInv w W b4 gr g g2) : GLoop w W b4 W.heap.size (.slice (some ⟨gr, 0, none⟩) 1 1) (.slice none 0 0) (.slice none 0 0) (List.replicate 0 [0]) := by
  refine ⟨h.below, h.k0, h.k4, h.n4, h.below.size, Nat.le_refl _, ?_, Kd.S_nil _ _ _ _ _⟩
  have hgr := blk_lt h.kr
  have hg := blk_lt h.kg
  have hg2 := blk_lt h.k2
  have ngr := h.nr
  have ng := h.ng
  have ng2 := h.n2
  have d1 : gr ≠ g := fun e => by
    have h1 := h.kr
    rw [e, h.kg] at h1
    injection h1 with h1
    injection h1 with _ h1 _
    cases h1
  have d2 : gr ≠ g2 := fun e => by
    have h1 := h.kr
    rw [e, h.k2] at h1
    injection h1 with h1
    injection h1 with _ h1 _
    cases h1
  have r1 := fun (ok : Nat → Prop) ho => int_row (W := W) (base := w.heap.size) (g := g) (n := 4) (xs := [-1, -1, -1, -1]) h.kg (by omega) rfl (by decide) ok ho
  have r2 := fun (ok : Nat → Prop) ho => int_row (W := W) (base := w.heap.size) (g := g2) (n := 2) (xs := [0, 0]) h.k2 (by omega) rfl (by decide) ok ho
  refine ⟨fun _ => 0, fun k hk => ?_, [.slice (some ⟨g, 0, none⟩) 4 4, .slice (some ⟨g2, 0, none⟩) 2 2], ⟨rfl, Or.inr ⟨gr, 1, _, rfl, by omega, h.kr, Nat.le_refl _, by decide, rfl, rfl⟩⟩, rfl, fun j p hj => ?_⟩
  · obtain rfl : gr = k := by simpa [Value.ownBlock] using hk
    exact hgr
  · cases j with
    | zero =>
      cases hj
      exact k50_mkA W w.heap.size _ ⟨[-1, -1, -1, -1], [0, 0]⟩ (P := fun k => k = g) (Q := fun k => k = g2) (fun k h1 h2 => h.ne (h1.symm.trans h2)) (r1 _ ⟨⟨⟨hg, fun e => d1 (by simpa [Value.ownBlock] using e.symm)⟩, rfl⟩, rfl⟩) (r2 _ ⟨⟨⟨hg2, fun e => d2 (by simpa [Value.ownBlock] using e.symm)⟩, rfl⟩, rfl⟩)
    | succ j => cases hj
theorem gl_append {w W w24 : World} {b4 m1 : Nat} {v0 v1 v24 : Value} {rr rr' : List (List Int)} {o : Obj} (h : GLoop w W b4 m1 v0 v1 v1 rr) (hS : Kd.S (Kd.slice 3 (Kd.int .i64)) 24 w24 w.heap.size (fun k => m1 ≤ k) v24 rr') (hb : Below w.heap.size w w24) (hg : (W.alloc o).grownBy w24 v1.ownBlock) : GLoop w w24 b4 m1 v0 v1 v24 rr' := by
  have hS1 := Kd.S_R (Kd.S_alloc h.S1 o)
  have k0 := blk_alloc h.k0 o
  have k4 := blk_alloc h.k4 o
  have hz := hg.size
  have hm := h.m
  rw [World.size_alloc] at hz
  exact ⟨hb, blk_grown k0 hg (Kd.R_ne hS1 k0 (by decide)), blk_grown k4 hg (Kd.R_ne hS1 k4 (by decide)), h.n4, h.m0, by omega, Kd.S_grown (Kd.S_alloc h.S0 o) hg (fun k hk e => by have := hS1.1 k e.symm; omega), hS⟩
theorem gl_store {w W : World} {b4 m1 : Nat} {v0 vc v1 : Value} {rr : List (List Int)} (h : GLoop w W b4 m1 v0 vc v1 rr) : GLoop w (W.setCell ⟨b4, 1, none⟩ v1) b4 m1 v0 v1 v1 rr :=
  ⟨below_set h.below (Nat.le_of_lt h.n4), blk_far h.k0 (p := ⟨b4, 1, none⟩) (by show w.heap.size ≠ b4; have := h.n4; omega) _, blk_put h.k4 1 _ rfl, h.n4, h.m0, by rw [World.size_setCell]; exact h.m, Kd.S_set h.S0 h.k4 (by decide) _ _, Kd.S_set h.S1 h.k4 (by decide) _ _⟩
theorem zero_row (W : World) (base : Nat) (hb : base ≤ W.heap.size) : Kd.R (Kd.int .i64) 3 (W.alloc (.cells #[.int .i64 0] 3)) base (fun k => k = W.heap.size) (.slice (some ⟨W.heap.size, 0, none⟩) 1 1) [0] :=
  int_row (xs := [0]) (blk_new W _) hb rfl (by decide) _ rfl
theorem gl_row {w W : World} {b4 m1 : Nat} {v0 v1 : Value} {rr : List (List Int)} (h : GLoop w W b4 m1 v0 v1 v1 rr) : Kd.S (Kd.slice 3 (Kd.int .i64)) 24 (W.alloc (.cells #[.int .i64 0] 3)) w.heap.size (fun k => m1 ≤ k ∧ ¬ k = W.heap.size) v1 rr :=
  Kd.S_mono (Kd.S_alloc (Kd.S_bound h.S1) _) (fun k hk => ⟨hk.1, fun e => by have := hk.2.2.1; omega⟩)
structure GNew (w0 W : World) (m1 n : Nat) (v0 v1 : Value) : Prop where
  below : Below w0.heap.size w0 W
  m0 : w0.heap.size ≤ m1
  m : m1 ≤ W.heap.size
  S0 : Kd.S k50 50 W w0.heap.size (fun k => k < m1) v0 [⟨[-1, -1, -1, -1], [0, 0]⟩]
  S1 : Kd.S (Kd.slice 3 (Kd.int .i64)) 24 W w0.heap.size (fun k => m1 ≤ k ∧ k < W.heap.size) v1 (List.replicate n [0])
theorem gl_exit {w W : World} {b4 m1 n : Nat} {v0 v1 u0 u1 u2 : Value} {rr : List (List Int)} (h : GLoop w W b4 m1 v0 v1 v1 rr) (hr : rr = List.replicate n [0]) : GNew w (((W.setCell ⟨w.heap.size, 0, none⟩ u0).setCell ⟨w.heap.size, 1, none⟩ u1).setCell ⟨w.heap.size, 2, none⟩ u2) m1 n v0 v1 := by
  subst hr
  have e1 := blk_put h.k0 0 u0 rfl
  have e2 := blk_put e1 1 u1 rfl
  refine ⟨below_set (below_set (below_set h.below (Nat.le_refl _)) (Nat.le_refl _)) (Nat.le_refl _), h.m0, by rw [World.size_setCell, World.size_setCell, World.size_setCell]; exact h.m, ?_, ?_⟩
  · exact Kd.S_set (Kd.S_set (Kd.S_set h.S0 h.k0 (by decide) _ _) e1 (by decide) _ _) e2 (by decide) _ _
  · refine Kd.S_mono (Kd.S_bound (Kd.S_set (Kd.S_set (Kd.S_set h.S1 h.k0 (by decide) _ _) e1 (by decide) _ _) e2 (by decide) _ _)) (fun k hk => ⟨hk.1, hk.2.2.1⟩)
theorem make2 : ∀ (W : World), (Instr.makeSlice 24 (.int .i64 2) (.int .i64 2)).run Try.prog W = .ok (.slice (some ⟨W.heap.size, 0, none⟩) 2 2) (W.alloc (.cells #[.int .i64 0, .int .i64 0] 3)) := fun _ => by kernel_rfl
set_option maxHeartbeats 4000000 in
theorem graphNew_ok (a : Int) (h1 : 1 ≤ a) (h3 : a ≤ 3) (w : World) : Calls Try.prog 9 #[.int .i64 a] w fun e w' => ∃ m1 v0 v1, e = .returned (.tuple #[.agg #[v0, v1, .slice none 0 0], .bool true]) ∧ GNew w w' m1 a.toNat v0 v1 := by
  have c1 : decide (a < 1) = false := decide_eq_false (by omega)
  have c2 : decide (3 < a) = false := decide_eq_false (by omega)
  have hmk := make2
  go_enter Try.func9, Try.ntmps9
  go_upto_region 3 with (fail)
  go_cut [4] (fun v4 wc => ∃ b4 gr g g2 : Nat, v4 = .pointer (some ⟨b4, 0, none⟩) ∧ Aside0 (NewInv w wc b4 gr g g2))
  case first =>
    obtain ⟨w1, hw1⟩ : ∃ w1, w1 = w.alloc (.cells #[.slice none 0 0, .slice none 0 0, .slice none 0 0] 26) := ⟨_, rfl⟩
    rw [← hw1]
    have W1 := Aside0.mk hw1
    clear hw1
    go_region_with (go_at_call 29; refine (none_calls _).mono ?_; rintro e w2 ⟨g, rfl, hr⟩; have R := Aside0.mk hr; obtain ⟨hc, hf⟩ := bcellA hr.below; (try (have hz1 : (w1.heap.size = w2.heap.size) = False := eq_false (by have h_ := hr.below.size; simp at h_; omega))); (try (have hz2 : w1.heap.size < w2.heap.size := by have h_ := hr.below.size; simp at h_; omega)); (try (have hz3 : (w1.heap.size + 1 = w2.heap.size) = False := eq_false (by have h_ := hr.below.size; simp at h_; omega))); (try (have hz4 : w1.heap.size + 1 < w2.heap.size := by have h_ := hr.below.size; simp at h_; omega)); clear hr)
    all_goals
      (try go_wp2)
      go_meet
      case rel =>
        have hz0 := R.out.below.size
        (try simp only [World.size_alloc, World.size_setCell, World.size_drew] at hz0)
        have hbl := fun k_ hk_ => R.out.below.block k_ hk_
        have hB2 : Below w1.heap.size w1 w2 := below_step (by repeat (first | exact Below.refl _ _ | apply below_drew1 | apply below_alloc)) R.out.below
        first
          | (refine ⟨_, w2.heap.size + 1, g, w2.heap.size, rfl, ⟨new_mk W1.out ?_ R.out ?_ ?_ ?_ ?_ ?_ ?_ ?_ ?_ ?_ ?_⟩⟩
             · (repeat (first | exact Below.refl _ _ | apply below_drew1 | apply below_alloc))
             · ((try simp only [heap_alloc, World.size_alloc, World.size_setCell, World.size_drew]); (repeat (first | rw [if_pos (by omega)] | rw [if_neg (by omega)])); first | rfl | (refine heap_put3 _ ?_; (refine (hbl _ ?_).trans ?_; (focus ((try simp only [World.size_alloc, World.size_setCell, World.size_drew]); omega)); refine blk_drew ?_; (try simp only [heap_alloc, World.size_alloc, World.size_setCell, World.size_drew]); (repeat (first | rw [if_pos (by omega)] | rw [if_neg (by omega)])); rfl)) | (refine (heap_set3 ?_ _ _ _).trans ?_; (focus omega); (refine (hbl _ ?_).trans ?_; (focus ((try simp only [World.size_alloc, World.size_setCell, World.size_drew]); omega)); refine blk_drew ?_; (try simp only [heap_alloc, World.size_alloc, World.size_setCell, World.size_drew]); (repeat (first | rw [if_pos (by omega)] | rw [if_neg (by omega)])); rfl)) | (refine (hbl _ ?_).trans ?_; (focus ((try simp only [World.size_alloc, World.size_setCell, World.size_drew]); omega)); refine blk_drew ?_; (try simp only [heap_alloc, World.size_alloc, World.size_setCell, World.size_drew]); (repeat (first | rw [if_pos (by omega)] | rw [if_neg (by omega)])); rfl))
             · ((try simp only [heap_alloc, World.size_alloc, World.size_setCell, World.size_drew]); (repeat (first | rw [if_pos (by omega)] | rw [if_neg (by omega)])); first | rfl | (refine heap_put3 _ ?_; (refine (hbl _ ?_).trans ?_; (focus ((try simp only [World.size_alloc, World.size_setCell, World.size_drew]); omega)); refine blk_drew ?_; (try simp only [heap_alloc, World.size_alloc, World.size_setCell, World.size_drew]); (repeat (first | rw [if_pos (by omega)] | rw [if_neg (by omega)])); rfl)) | (refine (heap_set3 ?_ _ _ _).trans ?_; (focus omega); (refine (hbl _ ?_).trans ?_; (focus ((try simp only [World.size_alloc, World.size_setCell, World.size_drew]); omega)); refine blk_drew ?_; (try simp only [heap_alloc, World.size_alloc, World.size_setCell, World.size_drew]); (repeat (first | rw [if_pos (by omega)] | rw [if_neg (by omega)])); rfl)) | (refine (hbl _ ?_).trans ?_; (focus ((try simp only [World.size_alloc, World.size_setCell, World.size_drew]); omega)); refine blk_drew ?_; (try simp only [heap_alloc, World.size_alloc, World.size_setCell, World.size_drew]); (repeat (first | rw [if_pos (by omega)] | rw [if_neg (by omega)])); rfl))
             · ((try simp only [heap_alloc, World.size_alloc, World.size_setCell, World.size_drew]); (repeat (first | rw [if_pos (by omega)] | rw [if_neg (by omega)])); first | rfl | (refine heap_put3 _ ?_; (refine (hbl _ ?_).trans ?_; (focus ((try simp only [World.size_alloc, World.size_setCell, World.size_drew]); omega)); refine blk_drew ?_; (try simp only [heap_alloc, World.size_alloc, World.size_setCell, World.size_drew]); (repeat (first | rw [if_pos (by omega)] | rw [if_neg (by omega)])); rfl)) | (refine (heap_set3 ?_ _ _ _).trans ?_; (focus omega); (refine (hbl _ ?_).trans ?_; (focus ((try simp only [World.size_alloc, World.size_setCell, World.size_drew]); omega)); refine blk_drew ?_; (try simp only [heap_alloc, World.size_alloc, World.size_setCell, World.size_drew]); (repeat (first | rw [if_pos (by omega)] | rw [if_neg (by omega)])); rfl)) | (refine (hbl _ ?_).trans ?_; (focus ((try simp only [World.size_alloc, World.size_setCell, World.size_drew]); omega)); refine blk_drew ?_; (try simp only [heap_alloc, World.size_alloc, World.size_setCell, World.size_drew]); (repeat (first | rw [if_pos (by omega)] | rw [if_neg (by omega)])); rfl))
             · (intro k_ hk_ hn_; (try simp only [heap_alloc, World.size_alloc, World.size_setCell, World.size_drew]); (repeat (first | rw [if_pos (by omega)] | rw [if_neg (by omega)])); first | done | rfl | exact heap_set3 hn_ _ _ _)
             · (repeat (first | exact hB2 | apply below_alloc | refine below_set ?_ (Nat.le_trans (Nat.le_refl _) (by first | exact Nat.le_refl _ | exact Nat.le_succ _))))
             · omega
             · omega
             · omega
             · ((try simp only [World.size_alloc, World.size_setCell, World.size_drew]); omega)
             · ((try simp only [World.size_alloc, World.size_setCell, World.size_drew]); omega))
          | (refine ⟨_, w2.heap.size + 1 + 1, g, w2.heap.size, rfl, ⟨new_mk W1.out ?_ R.out ?_ ?_ ?_ ?_ ?_ ?_ ?_ ?_ ?_ ?_⟩⟩
             · (repeat (first | exact Below.refl _ _ | apply below_drew1 | apply below_alloc))
             · ((try simp only [heap_alloc, World.size_alloc, World.size_setCell, World.size_drew]); (repeat (first | rw [if_pos (by omega)] | rw [if_neg (by omega)])); first | rfl | (refine heap_put3 _ ?_; (refine (hbl _ ?_).trans ?_; (focus ((try simp only [World.size_alloc, World.size_setCell, World.size_drew]); omega)); refine blk_drew ?_; (try simp only [heap_alloc, World.size_alloc, World.size_setCell, World.size_drew]); (repeat (first | rw [if_pos (by omega)] | rw [if_neg (by omega)])); rfl)) | (refine (heap_set3 ?_ _ _ _).trans ?_; (focus omega); (refine (hbl _ ?_).trans ?_; (focus ((try simp only [World.size_alloc, World.size_setCell, World.size_drew]); omega)); refine blk_drew ?_; (try simp only [heap_alloc, World.size_alloc, World.size_setCell, World.size_drew]); (repeat (first | rw [if_pos (by omega)] | rw [if_neg (by omega)])); rfl)) | (refine (hbl _ ?_).trans ?_; (focus ((try simp only [World.size_alloc, World.size_setCell, World.size_drew]); omega)); refine blk_drew ?_; (try simp only [heap_alloc, World.size_alloc, World.size_setCell, World.size_drew]); (repeat (first | rw [if_pos (by omega)] | rw [if_neg (by omega)])); rfl))
             · ((try simp only [heap_alloc, World.size_alloc, World.size_setCell, World.size_drew]); (repeat (first | rw [if_pos (by omega)] | rw [if_neg (by omega)])); first | rfl | (refine heap_put3 _ ?_; (refine (hbl _ ?_).trans ?_; (focus ((try simp only [World.size_alloc, World.size_setCell, World.size_drew]); omega)); refine blk_drew ?_; (try simp only [heap_alloc, World.size_alloc, World.size_setCell, World.size_drew]); (repeat (first | rw [if_pos (by omega)] | rw [if_neg (by omega)])); rfl)) | (refine (heap_set3 ?_ _ _ _).trans ?_; (focus omega); (refine (hbl _ ?_).trans ?_; (focus ((try simp only [World.size_alloc, World.size_setCell, World.size_drew]); omega)); refine blk_drew ?_; (try simp only [heap_alloc, World.size_alloc, World.size_setCell, World.size_drew]); (repeat (first | rw [if_pos (by omega)] | rw [if_neg (by omega)])); rfl)) | (refine (hbl _ ?_).trans ?_; (focus ((try simp only [World.size_alloc, World.size_setCell, World.size_drew]); omega)); refine blk_drew ?_; (try simp only [heap_alloc, World.size_alloc, World.size_setCell, World.size_drew]); (repeat (first | rw [if_pos (by omega)] | rw [if_neg (by omega)])); rfl))
             · ((try simp only [heap_alloc, World.size_alloc, World.size_setCell, World.size_drew]); (repeat (first | rw [if_pos (by omega)] | rw [if_neg (by omega)])); first | rfl | (refine heap_put3 _ ?_; (refine (hbl _ ?_).trans ?_; (focus ((try simp only [World.size_alloc, World.size_setCell, World.size_drew]); omega)); refine blk_drew ?_; (try simp only [heap_alloc, World.size_alloc, World.size_setCell, World.size_drew]); (repeat (first | rw [if_pos (by omega)] | rw [if_neg (by omega)])); rfl)) | (refine (heap_set3 ?_ _ _ _).trans ?_; (focus omega); (refine (hbl _ ?_).trans ?_; (focus ((try simp only [World.size_alloc, World.size_setCell, World.size_drew]); omega)); refine blk_drew ?_; (try simp only [heap_alloc, World.size_alloc, World.size_setCell, World.size_drew]); (repeat (first | rw [if_pos (by omega)] | rw [if_neg (by omega)])); rfl)) | (refine (hbl _ ?_).trans ?_; (focus ((try simp only [World.size_alloc, World.size_setCell, World.size_drew]); omega)); refine blk_drew ?_; (try simp only [heap_alloc, World.size_alloc, World.size_setCell, World.size_drew]); (repeat (first | rw [if_pos (by omega)] | rw [if_neg (by omega)])); rfl))
             · (intro k_ hk_ hn_; (try simp only [heap_alloc, World.size_alloc, World.size_setCell, World.size_drew]); (repeat (first | rw [if_pos (by omega)] | rw [if_neg (by omega)])); first | done | rfl | exact heap_set3 hn_ _ _ _)
             · (repeat (first | exact hB2 | apply below_alloc | refine below_set ?_ (Nat.le_trans (Nat.le_refl _) (by first | exact Nat.le_refl _ | exact Nat.le_succ _))))
             · omega
             · omega
             · omega
             · ((try simp only [World.size_alloc, World.size_setCell, World.size_drew]); omega)
             · ((try simp only [World.size_alloc, World.size_setCell, World.size_drew]); omega))
          | (refine ⟨_, w2.heap.size + 1 + 1, g, w2.heap.size + 1, rfl, ⟨new_mk W1.out ?_ R.out ?_ ?_ ?_ ?_ ?_ ?_ ?_ ?_ ?_ ?_⟩⟩
             · (repeat (first | exact Below.refl _ _ | apply below_drew1 | apply below_alloc))
             · ((try simp only [heap_alloc, World.size_alloc, World.size_setCell, World.size_drew]); (repeat (first | rw [if_pos (by omega)] | rw [if_neg (by omega)])); first | rfl | (refine heap_put3 _ ?_; (refine (hbl _ ?_).trans ?_; (focus ((try simp only [World.size_alloc, World.size_setCell, World.size_drew]); omega)); refine blk_drew ?_; (try simp only [heap_alloc, World.size_alloc, World.size_setCell, World.size_drew]); (repeat (first | rw [if_pos (by omega)] | rw [if_neg (by omega)])); rfl)) | (refine (heap_set3 ?_ _ _ _).trans ?_; (focus omega); (refine (hbl _ ?_).trans ?_; (focus ((try simp only [World.size_alloc, World.size_setCell, World.size_drew]); omega)); refine blk_drew ?_; (try simp only [heap_alloc, World.size_alloc, World.size_setCell, World.size_drew]); (repeat (first | rw [if_pos (by omega)] | rw [if_neg (by omega)])); rfl)) | (refine (hbl _ ?_).trans ?_; (focus ((try simp only [World.size_alloc, World.size_setCell, World.size_drew]); omega)); refine blk_drew ?_; (try simp only [heap_alloc, World.size_alloc, World.size_setCell, World.size_drew]); (repeat (first | rw [if_pos (by omega)] | rw [if_neg (by omega)])); rfl))
             · ((try simp only [heap_alloc, World.size_alloc, World.size_setCell, World.size_drew]); (repeat (first | rw [if_pos (by omega)] | rw [if_neg (by omega)])); first | rfl | (refine heap_put3 _ ?_; (refine (hbl _ ?_).trans ?_; (focus ((try simp only [World.size_alloc, World.size_setCell, World.size_drew]); omega)); refine blk_drew ?_; (try simp only [heap_alloc, World.size_alloc, World.size_setCell, World.size_drew]); (repeat (first | rw [if_pos (by omega)] | rw [if_neg (by omega)])); rfl)) | (refine (heap_set3 ?_ _ _ _).trans ?_; (focus omega); (refine (hbl _ ?_).trans ?_; (focus ((try simp only [World.size_alloc, World.size_setCell, World.size_drew]); omega)); refine blk_drew ?_; (try simp only [heap_alloc, World.size_alloc, World.size_setCell, World.size_drew]); (repeat (first | rw [if_pos (by omega)] | rw [if_neg (by omega)])); rfl)) | (refine (hbl _ ?_).trans ?_; (focus ((try simp only [World.size_alloc, World.size_setCell, World.size_drew]); omega)); refine blk_drew ?_; (try simp only [heap_alloc, World.size_alloc, World.size_setCell, World.size_drew]); (repeat (first | rw [if_pos (by omega)] | rw [if_neg (by omega)])); rfl))
             · ((try simp only [heap_alloc, World.size_alloc, World.size_setCell, World.size_drew]); (repeat (first | rw [if_pos (by omega)] | rw [if_neg (by omega)])); first | rfl | (refine heap_put3 _ ?_; (refine (hbl _ ?_).trans ?_; (focus ((try simp only [World.size_alloc, World.size_setCell, World.size_drew]); omega)); refine blk_drew ?_; (try simp only [heap_alloc, World.size_alloc, World.size_setCell, World.size_drew]); (repeat (first | rw [if_pos (by omega)] | rw [if_neg (by omega)])); rfl)) | (refine (heap_set3 ?_ _ _ _).trans ?_; (focus omega); (refine (hbl _ ?_).trans ?_; (focus ((try simp only [World.size_alloc, World.size_setCell, World.size_drew]); omega)); refine blk_drew ?_; (try simp only [heap_alloc, World.size_alloc, World.size_setCell, World.size_drew]); (repeat (first | rw [if_pos (by omega)] | rw [if_neg (by omega)])); rfl)) | (refine (hbl _ ?_).trans ?_; (focus ((try simp only [World.size_alloc, World.size_setCell, World.size_drew]); omega)); refine blk_drew ?_; (try simp only [heap_alloc, World.size_alloc, World.size_setCell, World.size_drew]); (repeat (first | rw [if_pos (by omega)] | rw [if_neg (by omega)])); rfl))
             · (intro k_ hk_ hn_; (try simp only [heap_alloc, World.size_alloc, World.size_setCell, World.size_drew]); (repeat (first | rw [if_pos (by omega)] | rw [if_neg (by omega)])); first | done | rfl | exact heap_set3 hn_ _ _ _)
             · (repeat (first | exact hB2 | apply below_alloc | refine below_set ?_ (Nat.le_trans (Nat.le_refl _) (by first | exact Nat.le_refl _ | exact Nat.le_succ _))))
             · omega
             · omega
             · omega
             · ((try simp only [World.size_alloc, World.size_setCell, World.size_drew]); omega)
             · ((try simp only [World.size_alloc, World.size_setCell, World.size_drew]); omega))
          | (refine ⟨_, w2.heap.size, g, w1.heap.size, rfl, ⟨new_mk W1.out ?_ R.out ?_ ?_ ?_ ?_ ?_ ?_ ?_ ?_ ?_ ?_⟩⟩
             · (repeat (first | exact Below.refl _ _ | apply below_drew1 | apply below_alloc))
             · ((try simp only [heap_alloc, World.size_alloc, World.size_setCell, World.size_drew]); (repeat (first | rw [if_pos (by omega)] | rw [if_neg (by omega)])); first | rfl | (refine heap_put3 _ ?_; (refine (hbl _ ?_).trans ?_; (focus ((try simp only [World.size_alloc, World.size_setCell, World.size_drew]); omega)); refine blk_drew ?_; (try simp only [heap_alloc, World.size_alloc, World.size_setCell, World.size_drew]); (repeat (first | rw [if_pos (by omega)] | rw [if_neg (by omega)])); rfl)) | (refine (heap_set3 ?_ _ _ _).trans ?_; (focus omega); (refine (hbl _ ?_).trans ?_; (focus ((try simp only [World.size_alloc, World.size_setCell, World.size_drew]); omega)); refine blk_drew ?_; (try simp only [heap_alloc, World.size_alloc, World.size_setCell, World.size_drew]); (repeat (first | rw [if_pos (by omega)] | rw [if_neg (by omega)])); rfl)) | (refine (hbl _ ?_).trans ?_; (focus ((try simp only [World.size_alloc, World.size_setCell, World.size_drew]); omega)); refine blk_drew ?_; (try simp only [heap_alloc, World.size_alloc, World.size_setCell, World.size_drew]); (repeat (first | rw [if_pos (by omega)] | rw [if_neg (by omega)])); rfl))
             · ((try simp only [heap_alloc, World.size_alloc, World.size_setCell, World.size_drew]); (repeat (first | rw [if_pos (by omega)] | rw [if_neg (by omega)])); first | rfl | (refine heap_put3 _ ?_; (refine (hbl _ ?_).trans ?_; (focus ((try simp only [World.size_alloc, World.size_setCell, World.size_drew]); omega)); refine blk_drew ?_; (try simp only [heap_alloc, World.size_alloc, World.size_setCell, World.size_drew]); (repeat (first | rw [if_pos (by omega)] | rw [if_neg (by omega)])); rfl)) | (refine (heap_set3 ?_ _ _ _).trans ?_; (focus omega); (refine (hbl _ ?_).trans ?_; (focus ((try simp only [World.size_alloc, World.size_setCell, World.size_drew]); omega)); refine blk_drew ?_; (try simp only [heap_alloc, World.size_alloc, World.size_setCell, World.size_drew]); (repeat (first | rw [if_pos (by omega)] | rw [if_neg (by omega)])); rfl)) | (refine (hbl _ ?_).trans ?_; (focus ((try simp only [World.size_alloc, World.size_setCell, World.size_drew]); omega)); refine blk_drew ?_; (try simp only [heap_alloc, World.size_alloc, World.size_setCell, World.size_drew]); (repeat (first | rw [if_pos (by omega)] | rw [if_neg (by omega)])); rfl))
             · ((try simp only [heap_alloc, World.size_alloc, World.size_setCell, World.size_drew]); (repeat (first | rw [if_pos (by omega)] | rw [if_neg (by omega)])); first | rfl | (refine heap_put3 _ ?_; (refine (hbl _ ?_).trans ?_; (focus ((try simp only [World.size_alloc, World.size_setCell, World.size_drew]); omega)); refine blk_drew ?_; (try simp only [heap_alloc, World.size_alloc, World.size_setCell, World.size_drew]); (repeat (first | rw [if_pos (by omega)] | rw [if_neg (by omega)])); rfl)) | (refine (heap_set3 ?_ _ _ _).trans ?_; (focus omega); (refine (hbl _ ?_).trans ?_; (focus ((try simp only [World.size_alloc, World.size_setCell, World.size_drew]); omega)); refine blk_drew ?_; (try simp only [heap_alloc, World.size_alloc, World.size_setCell, World.size_drew]); (repeat (first | rw [if_pos (by omega)] | rw [if_neg (by omega)])); rfl)) | (refine (hbl _ ?_).trans ?_; (focus ((try simp only [World.size_alloc, World.size_setCell, World.size_drew]); omega)); refine blk_drew ?_; (try simp only [heap_alloc, World.size_alloc, World.size_setCell, World.size_drew]); (repeat (first | rw [if_pos (by omega)] | rw [if_neg (by omega)])); rfl))
             · (intro k_ hk_ hn_; (try simp only [heap_alloc, World.size_alloc, World.size_setCell, World.size_drew]); (repeat (first | rw [if_pos (by omega)] | rw [if_neg (by omega)])); first | done | rfl | exact heap_set3 hn_ _ _ _)
             · (repeat (first | exact hB2 | apply below_alloc | refine below_set ?_ (Nat.le_trans (Nat.le_refl _) (by first | exact Nat.le_refl _ | exact Nat.le_succ _))))
             · omega
             · omega
             · omega
             · ((try simp only [World.size_alloc, World.size_setCell, World.size_drew]); omega)
             · ((try simp only [World.size_alloc, World.size_setCell, World.size_drew]); omega))
          | (refine ⟨_, w2.heap.size + 1, g, w1.heap.size, rfl, ⟨new_mk W1.out ?_ R.out ?_ ?_ ?_ ?_ ?_ ?_ ?_ ?_ ?_ ?_⟩⟩
             · (repeat (first | exact Below.refl _ _ | apply below_drew1 | apply below_alloc))
             · ((try simp only [heap_alloc, World.size_alloc, World.size_setCell, World.size_drew]); (repeat (first | rw [if_pos (by omega)] | rw [if_neg (by omega)])); first | rfl | (refine heap_put3 _ ?_; (refine (hbl _ ?_).trans ?_; (focus ((try simp only [World.size_alloc, World.size_setCell, World.size_drew]); omega)); refine blk_drew ?_; (try simp only [heap_alloc, World.size_alloc, World.size_setCell, World.size_drew]); (repeat (first | rw [if_pos (by omega)] | rw [if_neg (by omega)])); rfl)) | (refine (heap_set3 ?_ _ _ _).trans ?_; (focus omega); (refine (hbl _ ?_).trans ?_; (focus ((try simp only [World.size_alloc, World.size_setCell, World.size_drew]); omega)); refine blk_drew ?_; (try simp only [heap_alloc, World.size_alloc, World.size_setCell, World.size_drew]); (repeat (first | rw [if_pos (by omega)] | rw [if_neg (by omega)])); rfl)) | (refine (hbl _ ?_).trans ?_; (focus ((try simp only [World.size_alloc, World.size_setCell, World.size_drew]); omega)); refine blk_drew ?_; (try simp only [heap_alloc, World.size_alloc, World.size_setCell, World.size_drew]); (repeat (first | rw [if_pos (by omega)] | rw [if_neg (by omega)])); rfl))
             · ((try simp only [heap_alloc, World.size_alloc, World.size_setCell, World.size_drew]); (repeat (first | rw [if_pos (by omega)] | rw [if_neg (by omega)])); first | rfl | (refine heap_put3 _ ?_; (refine (hbl _ ?_).trans ?_; (focus ((try simp only [World.size_alloc, World.size_setCell, World.size_drew]); omega)); refine blk_drew ?_; (try simp only [heap_alloc, World.size_alloc, World.size_setCell, World.size_drew]); (repeat (first | rw [if_pos (by omega)] | rw [if_neg (by omega)])); rfl)) | (refine (heap_set3 ?_ _ _ _).trans ?_; (focus omega); (refine (hbl _ ?_).trans ?_; (focus ((try simp only [World.size_alloc, World.size_setCell, World.size_drew]); omega)); refine blk_drew ?_; (try simp only [heap_alloc, World.size_alloc, World.size_setCell, World.size_drew]); (repeat (first | rw [if_pos (by omega)] | rw [if_neg (by omega)])); rfl)) | (refine (hbl _ ?_).trans ?_; (focus ((try simp only [World.size_alloc, World.size_setCell, World.size_drew]); omega)); refine blk_drew ?_; (try simp only [heap_alloc, World.size_alloc, World.size_setCell, World.size_drew]); (repeat (first | rw [if_pos (by omega)] | rw [if_neg (by omega)])); rfl))
             · ((try simp only [heap_alloc, World.size_alloc, World.size_setCell, World.size_drew]); (repeat (first | rw [if_pos (by omega)] | rw [if_neg (by omega)])); first | rfl | (refine heap_put3 _ ?_; (refine (hbl _ ?_).trans ?_; (focus ((try simp only [World.size_alloc, World.size_setCell, World.size_drew]); omega)); refine blk_drew ?_; (try simp only [heap_alloc, World.size_alloc, World.size_setCell, World.size_drew]); (repeat (first | rw [if_pos (by omega)] | rw [if_neg (by omega)])); rfl)) | (refine (heap_set3 ?_ _ _ _).trans ?_; (focus omega); (refine (hbl _ ?_).trans ?_; (focus ((try simp only [World.size_alloc, World.size_setCell, World.size_drew]); omega)); refine blk_drew ?_; (try simp only [heap_alloc, World.size_alloc, World.size_setCell, World.size_drew]); (repeat (first | rw [if_pos (by omega)] | rw [if_neg (by omega)])); rfl)) | (refine (hbl _ ?_).trans ?_; (focus ((try simp only [World.size_alloc, World.size_setCell, World.size_drew]); omega)); refine blk_drew ?_; (try simp only [heap_alloc, World.size_alloc, World.size_setCell, World.size_drew]); (repeat (first | rw [if_pos (by omega)] | rw [if_neg (by omega)])); rfl))
             · (intro k_ hk_ hn_; (try simp only [heap_alloc, World.size_alloc, World.size_setCell, World.size_drew]); (repeat (first | rw [if_pos (by omega)] | rw [if_neg (by omega)])); first | done | rfl | exact heap_set3 hn_ _ _ _)
             · (repeat (first | exact hB2 | apply below_alloc | refine below_set ?_ (Nat.le_trans (Nat.le_refl _) (by first | exact Nat.le_refl _ | exact Nat.le_succ _))))
             · omega
             · omega
             · omega
             · ((try simp only [World.size_alloc, World.size_setCell, World.size_drew]); omega)
             · ((try simp only [World.size_alloc, World.size_setCell, World.size_drew]); omega))
          | (refine ⟨_, w2.heap.size, g, w1.heap.size + 1, rfl, ⟨new_mk W1.out ?_ R.out ?_ ?_ ?_ ?_ ?_ ?_ ?_ ?_ ?_ ?_⟩⟩
             · (repeat (first | exact Below.refl _ _ | apply below_drew1 | apply below_alloc))
             · ((try simp only [heap_alloc, World.size_alloc, World.size_setCell, World.size_drew]); (repeat (first | rw [if_pos (by omega)] | rw [if_neg (by omega)])); first | rfl | (refine heap_put3 _ ?_; (refine (hbl _ ?_).trans ?_; (focus ((try simp only [World.size_alloc, World.size_setCell, World.size_drew]); omega)); refine blk_drew ?_; (try simp only [heap_alloc, World.size_alloc, World.size_setCell, World.size_drew]); (repeat (first | rw [if_pos (by omega)] | rw [if_neg (by omega)])); rfl)) | (refine (heap_set3 ?_ _ _ _).trans ?_; (focus omega); (refine (hbl _ ?_).trans ?_; (focus ((try simp only [World.size_alloc, World.size_setCell, World.size_drew]); omega)); refine blk_drew ?_; (try simp only [heap_alloc, World.size_alloc, World.size_setCell, World.size_drew]); (repeat (first | rw [if_pos (by omega)] | rw [if_neg (by omega)])); rfl)) | (refine (hbl _ ?_).trans ?_; (focus ((try simp only [World.size_alloc, World.size_setCell, World.size_drew]); omega)); refine blk_drew ?_; (try simp only [heap_alloc, World.size_alloc, World.size_setCell, World.size_drew]); (repeat (first | rw [if_pos (by omega)] | rw [if_neg (by omega)])); rfl))
             · ((try simp only [heap_alloc, World.size_alloc, World.size_setCell, World.size_drew]); (repeat (first | rw [if_pos (by omega)] | rw [if_neg (by omega)])); first | rfl | (refine heap_put3 _ ?_; (refine (hbl _ ?_).trans ?_; (focus ((try simp only [World.size_alloc, World.size_setCell, World.size_drew]); omega)); refine blk_drew ?_; (try simp only [heap_alloc, World.size_alloc, World.size_setCell, World.size_drew]); (repeat (first | rw [if_pos (by omega)] | rw [if_neg (by omega)])); rfl)) | (refine (heap_set3 ?_ _ _ _).trans ?_; (focus omega); (refine (hbl _ ?_).trans ?_; (focus ((try simp only [World.size_alloc, World.size_setCell, World.size_drew]); omega)); refine blk_drew ?_; (try simp only [heap_alloc, World.size_alloc, World.size_setCell, World.size_drew]); (repeat (first | rw [if_pos (by omega)] | rw [if_neg (by omega)])); rfl)) | (refine (hbl _ ?_).trans ?_; (focus ((try simp only [World.size_alloc, World.size_setCell, World.size_drew]); omega)); refine blk_drew ?_; (try simp only [heap_alloc, World.size_alloc, World.size_setCell, World.size_drew]); (repeat (first | rw [if_pos (by omega)] | rw [if_neg (by omega)])); rfl))
             · ((try simp only [heap_alloc, World.size_alloc, World.size_setCell, World.size_drew]); (repeat (first | rw [if_pos (by omega)] | rw [if_neg (by omega)])); first | rfl | (refine heap_put3 _ ?_; (refine (hbl _ ?_).trans ?_; (focus ((try simp only [World.size_alloc, World.size_setCell, World.size_drew]); omega)); refine blk_drew ?_; (try simp only [heap_alloc, World.size_alloc, World.size_setCell, World.size_drew]); (repeat (first | rw [if_pos (by omega)] | rw [if_neg (by omega)])); rfl)) | (refine (heap_set3 ?_ _ _ _).trans ?_; (focus omega); (refine (hbl _ ?_).trans ?_; (focus ((try simp only [World.size_alloc, World.size_setCell, World.size_drew]); omega)); refine blk_drew ?_; (try simp only [heap_alloc, World.size_alloc, World.size_setCell, World.size_drew]); (repeat (first | rw [if_pos (by omega)] | rw [if_neg (by omega)])); rfl)) | (refine (hbl _ ?_).trans ?_; (focus ((try simp only [World.size_alloc, World.size_setCell, World.size_drew]); omega)); refine blk_drew ?_; (try simp only [heap_alloc, World.size_alloc, World.size_setCell, World.size_drew]); (repeat (first | rw [if_pos (by omega)] | rw [if_neg (by omega)])); rfl))
             · (intro k_ hk_ hn_; (try simp only [heap_alloc, World.size_alloc, World.size_setCell, World.size_drew]); (repeat (first | rw [if_pos (by omega)] | rw [if_neg (by omega)])); first | done | rfl | exact heap_set3 hn_ _ _ _)
             · (repeat (first | exact hB2 | apply below_alloc | refine below_set ?_ (Nat.le_trans (Nat.le_refl _) (by first | exact Nat.le_refl _ | exact Nat.le_succ _))))
             · omega
             · omega
             · omega
             · ((try simp only [World.size_alloc, World.size_setCell, World.size_drew]); omega)
             · ((try simp only [World.size_alloc, World.size_setCell, World.size_drew]); omega))
  case rest =>
    obtain ⟨b4, gr, g, g2, rfl, NI⟩ := hcut
    have NI2 := Aside0.mk (new_loop NI.out)
    clear NI hmk c1 c2
    go_wp2
    go_loopg [18] a.toNat (fun gg v18 wr => ∃ (i : Nat) (v1 : Value) (rr : List (List Int)), i ≤ a.toNat ∧ a.toNat - i ≤ gg ∧ v18 = .int .i64 (i : Int) ∧ Aside0 (GLoop w wr b4 wc.heap.size (.slice (some ⟨gr, 0, none⟩) 1 1) v1 v1 rr) ∧ Aside0 (rr = List.replicate i [0]))
    case atStart => exact ⟨0, _, _, Nat.zero_le _, by omega, rfl, NI2, ⟨rfl⟩⟩
    case round =>
      clear NI2
      obtain ⟨i, v1, rr, hi, hgg, rfl, GL, HRR⟩ := hrel
      have m1 := GL.out.m
      by_cases hlt : i < a.toNat
      · have hltz : (i : Int) < a := by omega
        obtain ⟨A1, d1, e1⟩ := Kd.S_slice GL.out.S1
        subst e1
        have x1 : wr.cell? ⟨b4, 1, none⟩ = some (.slice A1 rr.length d1) := (blk_cell GL.out.k4 1).trans rfl
        have ROW := Aside0.mk (gl_row GL.out)
        have ZR := Aside0.mk (zero_row wr w.heap.size GL.out.below.size)
        have NE := Aside0.mk (fun (e : some wr.heap.size = (Value.slice A1 rr.length d1).ownBlock) => Nat.lt_irrefl wr.heap.size (by have h_ := (Kd.S_R (Kd.S_bound GL.out.S1)).1 _ e.symm; exact h_.2.2.1))
        have LN := Aside0.mk (show (rr.length + 1) * 24 ≤ 140737488355328 by rw [HRR.out, List.length_replicate]; omega)
        have BB := Aside0.mk (below_alloc GL.out.below (.cells #[.int .i64 0] 3))
        have M1 := Aside0.mk m1
        have HI := Aside0.mk hi
        clear m1
        go_wp2_with (first
          | ((with_reducible refine gate_builtin (b := .append) (xs := #[.tmp 21, .tmp 23]) rfl ?_); at_builtin; go_loud (refine Kd.S_append (Kd.slice 3 (Kd.int .i64)) (w0 := w) (W := wr.alloc (.cells #[.int .i64 0] 3)) w.heap.size rfl (.tmp 21) (.tmp 23) 23 24 (.slice none 0 0) 24 rfl Try.underlying23 info24 rfl (by decide) (by omega) (.slice A1 rr.length d1) rr [0] [.slice (some ⟨wr.heap.size, 0, none⟩) 1 1] (fun k => wc.heap.size ≤ k) (fun k => k = wr.heap.size) rfl (by rw [World.size_alloc]; rfl) (Kd.M_row ZR.out) (fun k hk => ⟨by subst hk; exact M1.out, by subst hk; exact NE.out⟩) (fun k hk => Nat.le_trans M1.out (Nat.le_trans (by simp) hk)) ROW.out BB.out (Nat.le_trans (Nat.le_trans (Nat.le_refl _) GL.out.below.size) (by simp)) LN.out ?_; intro v24 w24 hS hb hg hat; have GL2 := Aside0.mk (gl_append GL.out hS hb hg); clear GL ROW ZR NE BB hS hb hg hat; obtain ⟨A24, c24, ev24⟩ := Kd.S_slice GL2.out.S1; subst ev24; have e4 := blk_frozen GL2.out.k4 1; have e5 := (blk_cell GL2.out.k4 1).trans (show _ = some (Value.slice A1 rr.length d1) from rfl)))
          | ((with_reducible refine gate_store (t := 23) (p := 25) rfl ?_); refine store_event (t := 23) (p := 25) (v := ?vo_w25) (w1 := (w24.setCell ⟨b4, 1, none⟩ (.slice A24 (rr ++ [[0]]).length c24))) ?hg ?ho ?hn ?hr ?_; (case ho => rfl); (case hg => rfl); (case hn => rfl); (case hr => first | (go_simp; done) | (go_simp; rfl)); intro w25 hw; have GL3 := Aside0.mk (show GLoop w w25 b4 wc.heap.size (.slice (some ⟨gr, 0, none⟩) 1 1) _ _ _ from (by rw [hw]; exact gl_store GL2.out)); clear GL2 hw e4 e5))
        go_roundg (a.toNat - (i + 1))
        case measure => omega
        case rel => exact ⟨i + 1, _, _, by omega, by omega, (by first | exact congrArg (Value.int .i64) (by unfold wrap64; omega) | exact congrArg (Value.int .i64) (by omega)), GL3, ⟨by rw [HRR.out, ← List.replicate_succ']⟩⟩
      · have hltz : ¬ (i : Int) < a := by omega
        obtain ⟨A1, d1, e1⟩ := Kd.S_slice GL.out.S1
        subst e1
        have y0 := (blk_cell GL.out.k4 0).trans (show _ = some (Value.slice (some ⟨gr, 0, none⟩) 1 1) from rfl)
        have y1 := (blk_cell GL.out.k4 1).trans (show _ = some (Value.slice A1 rr.length d1) from rfl)
        have y2 := (blk_cell GL.out.k4 2).trans (show _ = some (Value.slice none 0 0) from rfl)
        have z0 := blk_frozen GL.out.k0 0
        have z1 := blk_frozen GL.out.k0 1
        have z2 := blk_frozen GL.out.k0 2
        have x0 := (blk_cell GL.out.k0 0).trans (show _ = some (Value.slice none 0 0) from rfl)
        have x1 := (blk_cell GL.out.k0 1).trans (show _ = some (Value.slice none 0 0) from rfl)
        have x2 := (blk_cell GL.out.k0 2).trans (show _ = some (Value.slice none 0 0) from rfl)
        have M1 := Aside0.mk m1
        have HI := Aside0.mk (show i = a.toNat by omega)
        clear m1
        go_wp2
        refine bodyPost_ret (results_ct rfl _ _ w.heap.size 26 #[.slice (some ⟨gr, 0, none⟩) 1 1, .slice A1 rr.length d1, .slice none 0 0] (0, 0) _ rfl (by refine blk_put (cs := #[.slice (some ⟨gr, 0, none⟩) 1 1, .slice A1 rr.length d1, .slice none 0 0]) ?_ 2 _ rfl; refine blk_put (cs := #[.slice (some ⟨gr, 0, none⟩) 1 1, .slice none 0 0, .slice none 0 0]) ?_ 1 _ rfl; refine blk_put (cs := #[.slice none 0 0, .slice none 0 0, .slice none 0 0]) ?_ 0 _ rfl; exact GL.out.k0) Try.underlying26 rfl (by kernel_rfl)) rfl ?_
        exact ⟨_, _, _, rfl, gl_exit GL.out (HRR.out.trans (by rw [HI.out]))⟩

structure HLoop (w0 W : World) (b4 g2 : Nat) (vc v : Value) (rr : List Int) : Prop where
  below : Below w0.heap.size w0 W
  k0 : W.heap[w0.heap.size]? = some (.cells #[.slice none 0 0, .slice none 0 0, .slice none 0 0] 26 (0, 0))
  k4 : W.heap[b4]? = some (.cells #[vc, .slice (some ⟨g2, 0, none⟩) 2 2] 50 (0, 0))
  k2 : W.heap[g2]? = some (.cells #[.int .i64 0, .int .i64 0] 3 (0, 0))
  n4 : w0.heap.size < b4
  n2 : w0.heap.size < g2
  R : Kd.R (Kd.int .i64) 3 W w0.heap.size (fun k => k ≠ g2) v rr
theorem hl_append {w W w24 : World} {b4 g2 : Nat} {v v24 : Value} {rr rr' : List Int} (h : HLoop w W b4 g2 v v rr) (hR : Kd.R (Kd.int .i64) 3 w24 w.heap.size (fun k => k ≠ g2) v24 rr') (hb : Below w.heap.size w w24) (hg : W.grownBy w24 v.ownBlock) : HLoop w w24 b4 g2 v v24 rr' :=
  ⟨hb, blk_grown h.k0 hg (Kd.R_ne h.R h.k0 (by decide)), blk_grown h.k4 hg (Kd.R_ne h.R h.k4 (by decide)), blk_grown h.k2 hg (fun e => h.R.1 _ e.symm rfl), h.n4, h.n2, hR⟩
theorem hl_next {w W : World} {b4 g2 : Nat} {v : Value} {rr : List Int} (h : HLoop w W b4 g2 v v rr) (hr : rr = [-1, -1, -1, -1]) : GLoop w ((W.alloc (.cells #[v, .slice (some ⟨g2, 0, none⟩) 2 2] 50)).alloc (.cells #[.slice (some ⟨W.heap.size, 0, none⟩) 1 1, .slice none 0 0, .slice none 0 0] 26)) (W.heap.size + 1) (W.heap.size + 1 + 1) (.slice (some ⟨W.heap.size, 0, none⟩) 1 1) (.slice none 0 0) (.slice none 0 0) (List.replicate 0 [0]) := by
  subst hr
  have hz := h.below.size
  have h2 := blk_lt h.k2
  have n2 := h.n2
  refine ⟨below_alloc (below_alloc h.below _) _, blk_alloc (blk_alloc h.k0 _) _, ?_, by omega, by omega, by rw [World.size_alloc, World.size_alloc]; exact Nat.le_refl _, ?_, Kd.S_nil _ _ _ _ _⟩
  · have hn := blk_new (W.alloc (.cells #[v, .slice (some ⟨g2, 0, none⟩) 2 2] 50)) (.cells #[.slice (some ⟨W.heap.size, 0, none⟩) 1 1, .slice none 0 0, .slice none 0 0] 26)
    rwa [World.size_alloc] at hn
  have kr := blk_alloc (blk_new W (.cells #[v, .slice (some ⟨g2, 0, none⟩) 2 2] 50)) (.cells #[.slice (some ⟨W.heap.size, 0, none⟩) 1 1, .slice none 0 0, .slice none 0 0] 26)
  have r1 := Kd.R_alloc (Kd.R_alloc (Kd.R_bound h.R) (.cells #[v, .slice (some ⟨g2, 0, none⟩) 2 2] 50)) (.cells #[.slice (some ⟨W.heap.size, 0, none⟩) 1 1, .slice none 0 0, .slice none 0 0] 26)
  have r2 := fun (ok : Nat → Prop) ho => int_row (W := (W.alloc (.cells #[v, .slice (some ⟨g2, 0, none⟩) 2 2] 50)).alloc (.cells #[.slice (some ⟨W.heap.size, 0, none⟩) 1 1, .slice none 0 0, .slice none 0 0] 26)) (base := w.heap.size) (g := g2) (n := 2) (xs := [0, 0]) (blk_alloc (blk_alloc h.k2 _) _) (by omega) rfl (by decide) ok ho
  refine ⟨fun _ => 0, fun k hk => ?_, [v, .slice (some ⟨g2, 0, none⟩) 2 2], ⟨rfl, Or.inr ⟨W.heap.size, 1, _, rfl, hz, kr, Nat.le_refl _, by decide, rfl, rfl⟩⟩, rfl, fun j p hj => ?_⟩
  · obtain rfl : W.heap.size = k := by simpa [Value.ownBlock] using hk
    omega
  · cases j with
    | zero =>
      cases hj
      refine k50_mkA _ w.heap.size _ ⟨[-1, -1, -1, -1], [0, 0]⟩ (P := fun k => k ≠ g2) (Q := fun k => k = g2) (fun k h1 h2 => h1 h2) (Kd.R_mono r1 (fun k hk => ⟨⟨⟨?_, fun e => ?_⟩, rfl⟩, hk.1⟩)) (r2 _ ⟨⟨⟨?_, fun e => ?_⟩, rfl⟩, rfl⟩)
      · have := hk.2.2.1
        omega
      · have h3 := hk.2.2.1
        have h4 : k = W.heap.size := by simpa [Value.ownBlock] using e
        omega
      · omega
      · have h4 : g2 = W.heap.size := by simpa [Value.ownBlock] using e
        omega
    | succ j => cases hj
theorem hl_store {w W : World} {b4 g2 : Nat} {vc v : Value} {rr : List Int} (h : HLoop w W b4 g2 vc v rr) : HLoop w (W.setCell ⟨b4, 0, none⟩ v) b4 g2 v v rr :=
  ⟨below_set h.below (Nat.le_of_lt h.n4), blk_far h.k0 (p := ⟨b4, 0, none⟩) (by show w.heap.size ≠ b4; have := h.n4; omega) _, blk_put h.k4 0 _ rfl, blk_far h.k2 (p := ⟨b4, 0, none⟩) (by show g2 ≠ b4; exact blk_ne h.k2 h.k4 (by decide)) _, h.n4, h.n2, Kd.R_set h.R h.k4 (by decide) _ _⟩
theorem hl_start (w : World) : HLoop w (((w.alloc (.cells #[.slice none 0 0, .slice none 0 0, .slice none 0 0] 26)).alloc (.cells #[.int .i64 0, .int .i64 0] 3)).alloc (.cells #[.slice none 0 0, .slice (some ⟨w.heap.size + 1, 0, none⟩) 2 2] 50)) (w.heap.size + 1 + 1) (w.heap.size + 1) (.slice none 0 0) (.slice none 0 0) [] := by
  refine ⟨below_alloc (below_alloc (below_alloc (Below.refl _ _) _) _) _, blk_alloc (blk_alloc (blk_new w _) _) _, ?_, ?_, by omega, by omega, Kd.R_nil _ _ _ _ _⟩
  · have h := blk_new ((w.alloc (.cells #[.slice none 0 0, .slice none 0 0, .slice none 0 0] 26)).alloc (.cells #[.int .i64 0, .int .i64 0] 3)) (.cells #[.slice none 0 0, .slice (some ⟨w.heap.size + 1, 0, none⟩) 2 2] 50)
    rwa [World.size_alloc, World.size_alloc] at h
  · refine blk_alloc ?_ _
    have h := blk_new (w.alloc (.cells #[.slice none 0 0, .slice none 0 0, .slice none 0 0] 26)) (.cells #[.int .i64 0, .int .i64 0] 3)
    rwa [World.size_alloc] at h
set_option maxHeartbeats 4000000 in
theorem specNew_ok (a : Int) (h1 : 1 ≤ a) (h3 : a ≤ 3) (w : World) : Calls Try.prog 8 #[.int .i64 a] w fun e w' => ∃ m1 v0 v1, e = .returned (.tuple #[.agg #[v0, v1, .slice none 0 0], .bool true]) ∧ GNew w w' m1 a.toNat v0 v1 := by
  have c1 : decide (a < 1) = false := decide_eq_false (by omega)
  have c2 : decide (3 < a) = false := decide_eq_false (by omega)
  have hmk := make2
  have HL0 := Aside0.mk (hl_start w)
  go_enter Try.func8, Try.ntmps8
  go_wp2
  clear hmk c1 c2
  go_loopg [5] 4 (fun gg v5 wr => ∃ (i : Nat) (v : Value) (rr : List Int), i ≤ 4 ∧ 4 - i ≤ gg ∧ v5 = .int .i64 (i : Int) ∧ Aside0 (HLoop w wr (w.heap.size + 1 + 1) (w.heap.size + 1) v v rr) ∧ Aside0 (rr = List.replicate i (-1)))
  case atStart => exact ⟨0, .slice none 0 0, _, Nat.zero_le _, by omega, rfl, HL0, ⟨rfl⟩⟩
  case round =>
    clear HL0
    obtain ⟨i, v, rr, hi, hgg, rfl, HL, HRR⟩ := hrel
    obtain ⟨A1, d1, e1⟩ := Kd.R_slice HL.out.R
    subst e1
    have y0 := (blk_cell HL.out.k4 0).trans (show _ = some (Value.slice A1 rr.length d1) from rfl)
    by_cases hlt : i < 4
    · have hltz : (i : Int) < 4 := by omega
      have FR := Aside0.mk (fun (k : Nat) (hk : wr.heap.size ≤ k) => show k ≠ w.heap.size + 1 from by have h_ := blk_lt HL.out.k2; omega)
      have LN := Aside0.mk (show (rr.length + 1) * 8 ≤ 140737488355328 by rw [HRR.out, List.length_replicate]; omega)
      have HI := Aside0.mk hi
      go_wp2_with (first
        | ((with_reducible refine gate_builtin (b := .append) (xs := #[.tmp 22, .tmp 23]) rfl ?_); at_builtin; (refine Kd.R_append (Kd.int .i64) (w0 := w) (W := wr) w.heap.size rfl (.tmp 22) (.tmp 23) 24 3 (.int .i64 0) 8 rfl Try.underlying24 info3 rfl (by decide) (by decide) (.slice A1 rr.length d1) rr (-1) [.int .i64 (-1)] (fun k => k ≠ w.heap.size + 1) (fun _ => False) rfl rfl rfl (fun _ hk => hk.elim) FR.out HL.out.R HL.out.below HL.out.below.size LN.out ?_; intro v24 w24 hR hb hg hat; have HL2 := Aside0.mk (hl_append HL.out hR hb hg); clear HL FR hR hb hg hat y0; obtain ⟨A24, c24, ev24⟩ := Kd.R_slice HL2.out.R; subst ev24; have e4 := blk_frozen HL2.out.k4 0; have e5 := (blk_cell HL2.out.k4 0).trans (show _ = some (Value.slice A1 rr.length d1) from rfl)))
        | ((with_reducible refine gate_store (t := 24) (p := 25) rfl ?_); refine store_event (t := 24) (p := 25) (v := ?vo_w25) (w1 := (w24.setCell ⟨w.heap.size + 1 + 1, 0, none⟩ (.slice A24 (rr ++ [-1]).length c24))) ?hg ?ho ?hn ?hr ?_; (case ho => rfl); (case hg => rfl); (case hn => rfl); (case hr => first | (go_simp; done) | (go_simp; rfl)); intro w25 hw; have HL3 := Aside0.mk (show HLoop w w25 (w.heap.size + 1 + 1) (w.heap.size + 1) _ _ _ from (by rw [hw]; exact hl_store HL2.out)); clear HL2 hw e4 e5))
      go_roundg (4 - (i + 1))
      case measure => omega
      case rel => exact ⟨i + 1, _, _, by omega, by omega, (by first | exact congrArg (Value.int .i64) (by unfold wrap64; omega) | exact congrArg (Value.int .i64) (by omega)), HL3, ⟨by rw [HRR.out, ← List.replicate_succ']⟩⟩
    · have hltz : ¬ (i : Int) < 4 := by omega
      have y1 := (blk_cell HL.out.k4 1).trans (show _ = some (Value.slice (some ⟨w.heap.size + 1, 0, none⟩) 2 2) from rfl)
      have HI := Aside0.mk (show i = 4 by omega)
      clear hi hgg hlt
      go_wp2
      have GN2 := Aside0.mk (hl_next HL.out (HRR.out.trans (by rw [HI.out]; rfl)))
      clear HL y0 y1 HRR HI
      rename World => wc
      go_loopg [7] a.toNat (fun gg v7 wr => ∃ (i : Nat) (v1 : Value) (rr : List (List Int)), i ≤ a.toNat ∧ a.toNat - i ≤ gg ∧ v7 = .int .i64 (i : Int) ∧ Aside0 (GLoop w wr (wc.heap.size + 1) (wc.heap.size + 1 + 1) (.slice (some ⟨wc.heap.size, 0, none⟩) 1 1) v1 v1 rr) ∧ Aside0 (rr = List.replicate i [0]))
      case atStart => exact ⟨0, _, _, Nat.zero_le _, by omega, rfl, GN2, ⟨rfl⟩⟩
      case round =>
        clear GN2
        obtain ⟨i, v1, rr, hi, hgg, rfl, GL, HRR⟩ := hrel
        have m1 := GL.out.m
        by_cases hlt : i < a.toNat
        · have hltz : (i : Int) < a := by omega
          obtain ⟨A1, d1, e1⟩ := Kd.S_slice GL.out.S1
          subst e1
          have x1 : wr.cell? ⟨wc.heap.size + 1, 1, none⟩ = some (.slice A1 rr.length d1) := (blk_cell GL.out.k4 1).trans rfl
          have ROW := Aside0.mk (gl_row GL.out)
          have ZR := Aside0.mk (zero_row wr w.heap.size GL.out.below.size)
          have NE := Aside0.mk (fun (e : some wr.heap.size = (Value.slice A1 rr.length d1).ownBlock) => Nat.lt_irrefl wr.heap.size (by have h_ := (Kd.S_R (Kd.S_bound GL.out.S1)).1 _ e.symm; exact h_.2.2.1))
          have LN := Aside0.mk (show (rr.length + 1) * 24 ≤ 140737488355328 by rw [HRR.out, List.length_replicate]; omega)
          have BB := Aside0.mk (below_alloc GL.out.below (.cells #[.int .i64 0] 3))
          have M1 := Aside0.mk m1
          have HI := Aside0.mk hi
          clear m1
          go_wp2_with (first
            | ((with_reducible refine gate_builtin (b := .append) (xs := #[.tmp 35, .tmp 37]) rfl ?_); at_builtin; go_loud (refine Kd.S_append (Kd.slice 3 (Kd.int .i64)) (w0 := w) (W := wr.alloc (.cells #[.int .i64 0] 3)) w.heap.size rfl (.tmp 35) (.tmp 37) 23 24 (.slice none 0 0) 24 rfl Try.underlying23 info24 rfl (by decide) (by omega) (.slice A1 rr.length d1) rr [0] [.slice (some ⟨wr.heap.size, 0, none⟩) 1 1] (fun k => (wc.heap.size + 1 + 1) ≤ k) (fun k => k = wr.heap.size) rfl (by rw [World.size_alloc]; rfl) (Kd.M_row ZR.out) (fun k hk => ⟨by subst hk; exact M1.out, by subst hk; exact NE.out⟩) (fun k hk => Nat.le_trans M1.out (Nat.le_trans (by simp) hk)) ROW.out BB.out (Nat.le_trans (Nat.le_trans (Nat.le_refl _) GL.out.below.size) (by simp)) LN.out ?_; intro v38 w24 hS hb hg hat; have GL2 := Aside0.mk (gl_append GL.out hS hb hg); clear GL ROW ZR NE BB hS hb hg hat; obtain ⟨A24, c24, ev38⟩ := Kd.S_slice GL2.out.S1; subst ev38; have e4 := blk_frozen GL2.out.k4 1; have e5 := (blk_cell GL2.out.k4 1).trans (show _ = some (Value.slice A1 rr.length d1) from rfl)))
            | ((with_reducible refine gate_store (t := 23) (p := 39) rfl ?_); refine store_event (t := 23) (p := 39) (v := ?vo_w39) (w1 := (w24.setCell ⟨wc.heap.size + 1, 1, none⟩ (.slice A24 (rr ++ [[0]]).length c24))) ?hg ?ho ?hn ?hr ?_; (case ho => rfl); (case hg => rfl); (case hn => rfl); (case hr => first | (go_simp; done) | (go_simp; rfl)); intro w25 hw; have GL3 := Aside0.mk (show GLoop w w25 (wc.heap.size + 1) (wc.heap.size + 1 + 1) (.slice (some ⟨wc.heap.size, 0, none⟩) 1 1) _ _ _ from (by rw [hw]; exact gl_store GL2.out)); clear GL2 hw e4 e5))
          go_roundg (a.toNat - (i + 1))
          case measure => omega
          case rel => exact ⟨i + 1, _, _, by omega, by omega, (by first | exact congrArg (Value.int .i64) (by unfold wrap64; omega) | exact congrArg (Value.int .i64) (by omega)), GL3, ⟨by rw [HRR.out, ← List.replicate_succ']⟩⟩
        · have hltz : ¬ (i : Int) < a := by omega
          obtain ⟨A1, d1, e1⟩ := Kd.S_slice GL.out.S1
          subst e1
          have y0 := (blk_cell GL.out.k4 0).trans (show _ = some (Value.slice (some ⟨wc.heap.size, 0, none⟩) 1 1) from rfl)
          have y1 := (blk_cell GL.out.k4 1).trans (show _ = some (Value.slice A1 rr.length d1) from rfl)
          have y2 := (blk_cell GL.out.k4 2).trans (show _ = some (Value.slice none 0 0) from rfl)
          have z0 := blk_frozen GL.out.k0 0
          have z1 := blk_frozen GL.out.k0 1
          have z2 := blk_frozen GL.out.k0 2
          have x0 := (blk_cell GL.out.k0 0).trans (show _ = some (Value.slice none 0 0) from rfl)
          have x1 := (blk_cell GL.out.k0 1).trans (show _ = some (Value.slice none 0 0) from rfl)
          have x2 := (blk_cell GL.out.k0 2).trans (show _ = some (Value.slice none 0 0) from rfl)
          have M1 := Aside0.mk m1
          have HI := Aside0.mk (show i = a.toNat by omega)
          clear m1
          go_wp2
          refine bodyPost_ret (results_ct rfl _ _ w.heap.size 26 #[.slice (some ⟨wc.heap.size, 0, none⟩) 1 1, .slice A1 rr.length d1, .slice none 0 0] (0, 0) _ rfl (by refine blk_put (cs := #[.slice (some ⟨wc.heap.size, 0, none⟩) 1 1, .slice A1 rr.length d1, .slice none 0 0]) ?_ 2 _ rfl; refine blk_put (cs := #[.slice (some ⟨wc.heap.size, 0, none⟩) 1 1, .slice none 0 0, .slice none 0 0]) ?_ 1 _ rfl; refine blk_put (cs := #[.slice none 0 0, .slice none 0 0, .slice none 0 0]) ?_ 0 _ rfl; exact GL.out.k0) Try.underlying26 rfl (by kernel_rfl)) rfl ?_
          exact ⟨_, _, _, rfl, gl_exit GL.out (HRR.out.trans (by rw [HI.out]))⟩
theorem graphNew_bad (a : Int) (h : a < 1 ∨ 3 < a) (w : World) : Calls Try.prog 9 #[.int .i64 a] w fun e w' => e = .returned (.tuple #[.agg #[.slice none 0 0, .slice none 0 0, .slice none 0 0], .bool false]) ∧ Below w.heap.size w w' := by
  by_cases c : a < 1
  · have c1 : decide (a < 1) = true := decide_eq_true c
    clear h
    go_enter Try.func9, Try.ntmps9
    go_wp2
    refine bodyPost_ret (results_ct rfl _ _ w.heap.size 26 #[.slice none 0 0, .slice none 0 0, .slice none 0 0] (0, 0) _ rfl (blk_new w _) Try.underlying26 rfl (by kernel_rfl)) rfl ?_
    exact ⟨rfl, below_alloc (Below.refl _ _) _⟩
  · have c1 : decide (a < 1) = false := decide_eq_false c
    have c2 : decide (3 < a) = true := decide_eq_true (by omega)
    clear h
    go_enter Try.func9, Try.ntmps9
    go_wp2
    refine bodyPost_ret (results_ct rfl _ _ w.heap.size 26 #[.slice none 0 0, .slice none 0 0, .slice none 0 0] (0, 0) _ rfl (blk_new w _) Try.underlying26 rfl (by kernel_rfl)) rfl ?_
    exact ⟨rfl, below_alloc (Below.refl _ _) _⟩
theorem specNew_bad (a : Int) (h : a < 1 ∨ 3 < a) (w : World) : Calls Try.prog 8 #[.int .i64 a] w fun e w' => e = .returned (.tuple #[.agg #[.slice none 0 0, .slice none 0 0, .slice none 0 0], .bool false]) ∧ Below w.heap.size w w' := by
  by_cases c : a < 1
  · have c1 : decide (a < 1) = true := decide_eq_true c
    clear h
    go_enter Try.func8, Try.ntmps8
    go_wp2
    refine bodyPost_ret (results_ct rfl _ _ w.heap.size 26 #[.slice none 0 0, .slice none 0 0, .slice none 0 0] (0, 0) _ rfl (blk_new w _) Try.underlying26 rfl (by kernel_rfl)) rfl ?_
    exact ⟨rfl, below_alloc (Below.refl _ _) _⟩
  · have c1 : decide (a < 1) = false := decide_eq_false c
    have c2 : decide (3 < a) = true := decide_eq_true (by omega)
    clear h
    go_enter Try.func8, Try.ntmps8
    go_wp2
    refine bodyPost_ret (results_ct rfl _ _ w.heap.size 26 #[.slice none 0 0, .slice none 0 0, .slice none 0 0] (0, 0) _ rfl (blk_new w _) Try.underlying26 rfl (by kernel_rfl)) rfl ?_
    exact ⟨rfl, below_alloc (Below.refl _ _) _⟩
structure GRows (w0 W : World) (m1 : Nat) (v0 v1 : Value) (r1 : List S50) (r2 : List (List Int)) : Prop where
  below : Below w0.heap.size w0 W
  m0 : w0.heap.size ≤ m1
  m : m1 ≤ W.heap.size
  S0 : Kd.S k50 50 W w0.heap.size (fun k => k < m1) v0 r1
  S1 : Kd.S (Kd.slice 3 (Kd.int .i64)) 24 W w0.heap.size (fun k => m1 ≤ k ∧ k < W.heap.size) v1 r2
def nRows (a : Int) : List S50 := if a < 1 ∨ 3 < a then [] else [⟨[-1, -1, -1, -1], [0, 0]⟩]
def rRows (a : Int) : List (List Int) := if a < 1 ∨ 3 < a then [] else List.replicate a.toNat [0]
def okN (a : Int) : Bool := if a < 1 ∨ 3 < a then false else true
theorem grows_ok {w0 W : World} {m1 : Nat} {v0 v1 : Value} {a : Int} (h : ¬ (a < 1 ∨ 3 < a)) (g : GNew w0 W m1 a.toNat v0 v1) : GRows w0 W m1 v0 v1 (nRows a) (rRows a) := by
  unfold nRows rRows
  rw [if_neg h, if_neg h]
  exact ⟨g.below, g.m0, g.m, g.S0, g.S1⟩
theorem grows_bad {w0 W : World} {a : Int} (h : a < 1 ∨ 3 < a) (hb : Below w0.heap.size w0 W) : GRows w0 W w0.heap.size (.slice none 0 0) (.slice none 0 0) (nRows a) (rRows a) := by
  unfold nRows rRows
  rw [if_pos h, if_pos h]
  exact ⟨hb, Nat.le_refl _, hb.size, Kd.S_nil _ _ _ _ _, Kd.S_nil _ _ _ _ _⟩
theorem graphNew_any (a : Int) (w : World) : Calls Try.prog 9 #[.int .i64 a] w fun e w' => ∃ m1 v0 v1, e = .returned (.tuple #[.agg #[v0, v1, .slice none 0 0], .bool (okN a)]) ∧ GRows w w' m1 v0 v1 (nRows a) (rRows a) := by
  by_cases h : a < 1 ∨ 3 < a
  · refine (graphNew_bad a h w).mono ?_
    rintro e w' ⟨rfl, hb⟩
    exact ⟨_, _, _, by rw [show okN a = false from if_pos h], grows_bad h hb⟩
  · refine (graphNew_ok a (by omega) (by omega) w).mono ?_
    rintro e w' ⟨m1, v0, v1, rfl, hg⟩
    exact ⟨_, _, _, by rw [show okN a = true from if_neg h], grows_ok h hg⟩
theorem specNew_any (a : Int) (w : World) : Calls Try.prog 8 #[.int .i64 a] w fun e w' => ∃ m1 v0 v1, e = .returned (.tuple #[.agg #[v0, v1, .slice none 0 0], .bool (okN a)]) ∧ GRows w w' m1 v0 v1 (nRows a) (rRows a) := by
  by_cases h : a < 1 ∨ 3 < a
  · refine (specNew_bad a h w).mono ?_
    rintro e w' ⟨rfl, hb⟩
    exact ⟨_, _, _, by rw [show okN a = false from if_pos h], grows_bad h hb⟩
  · refine (specNew_ok a (by omega) (by omega) w).mono ?_
    rintro e w' ⟨m1, v0, v1, rfl, hg⟩
    exact ⟨_, _, _, by rw [show okN a = true from if_neg h], grows_ok h hg⟩

/-! ### laws_eqIntS: function 24 -/
def laws_eqIntS.l0 : Nat → List Int → List Int → Int → Option (Bool)
  | 0, _, _, _ => none
  | k + 1, x0, x1, x5 => if x5 < (x0.length : Int) then (if 0 ≤ x5 then (if x5 < (x1.length : Int) then (if (rd x0 x5) = (rd x1 x5) then (laws_eqIntS.l0 k x0 x1 (wrap64 (x5 + 1))) else (some false)) else (none)) else (none)) else (some true)
def laws_eqIntS.f (k : Nat) (l0 : List Int) (l1 : List Int) : Option (Bool) := if (l0.length : Int) = (l1.length : Int) then (laws_eqIntS.l0 k l0 l1 0) else (some false)
theorem laws_eqIntS.mono_l : ∀ k, (∀ y0 y1 y2, LeO (laws_eqIntS.l0 k y0 y1 y2) (laws_eqIntS.l0 (k + 1) y0 y1 y2))
  | 0 => fun _ _ _ r h => by simp [laws_eqIntS.l0] at h
  | k + 1 => by
    have ih0 := laws_eqIntS.mono_l k
    · intro y0 y1 y2
      unfold laws_eqIntS.l0
      repeat' first
      | (with_reducible exact ih0 _ _ _)
      | (with_reducible exact LeO.refl _)
      | (with_reducible exact LeO.none _)
      | (with_reducible refine LeO.ite ?_ ?_)
      | (with_reducible refine LeO.bind ?_ (fun _ => ?_))
      | exact ih0 _ _ _
      | exact LeO.none _
      | refine LeO.ite ?_ ?_
      | refine LeO.bind ?_ (fun _ => ?_)
theorem laws_eqIntS.mono : ∀ a0 a1 k, LeO (laws_eqIntS.f k a0 a1) (laws_eqIntS.f (k + 1) a0 a1) := by
  intro a0 a1 k
  have ih0 := laws_eqIntS.mono_l k
  unfold laws_eqIntS.f
  repeat' first
      | (with_reducible exact ih0 _ _ _)
      | (with_reducible exact LeO.refl _)
      | (with_reducible exact LeO.none _)
      | (with_reducible refine LeO.ite ?_ ?_)
      | (with_reducible refine LeO.bind ?_ (fun _ => ?_))
      | exact ih0 _ _ _
      | exact LeO.none _
      | refine LeO.ite ?_ ?_
      | refine LeO.bind ?_ (fun _ => ?_)
set_option maxHeartbeats 8000000 in
set_option maxRecDepth 100000 in
theorem laws_eqIntS.calls (k : Nat) (A0 : Option Addr) (c0 : Nat) (l0 : List Int) (A1 : Option Addr) (c1 : Nat) (l1 : List Int) (r : Bool) (w : World) (hr0 : Kd.C (Kd.int .i64) w A0 l0.length l0) (hc0 : l0.length ≤ c0) (hr1 : Kd.C (Kd.int .i64) w A1 l1.length l1) (hc1 : l1.length ≤ c1) (h : laws_eqIntS.f k l0 l1 = some r) :
    Calls Try.prog 24 #[.slice A0 l0.length c0, .slice A1 l1.length c1] w fun e w' => e = .returned (.bool r) ∧ Drawn0 w w' := by
  have HR0 := Aside0.mk hr0
  have HC0 := Aside0.mk hc0
  clear hr0 hc0
  have HR1 := Aside0.mk hr1
  have HC1 := Aside0.mk hc1
  clear hr1 hc1
  have H : (if (l0.length : Int) = (l1.length : Int) then (laws_eqIntS.l0 k l0 l1 0) else (some false)) = some r := h
  clear h
  by_cases c3 : (l0.length : Int) = (l1.length : Int)
  · rw [if_pos c3] at H
    have c3b0 : ((l0.length : Int) == (l1.length : Int)) = true := beq_iff_eq.mpr c3
    have c3b1 : ((l0.length : Int) != (l1.length : Int)) = false := bne_eq_false_iff_eq.mpr c3
    have c3b2 : (l0.length == l1.length) = true := by first | simpa using c3 | (simp at c3 ⊢; omega)
    clear c3
    have H' := Aside0.mk H
    clear H
    go_enter Try.func24, Try.ntmps24
    go_wp2
    repeat (go_quiet (fail); try go_wp2)
    go_loopg [5] k (fun kq v5 w' => ∃ (x5_1 : Int), v5 = .int .i64 x5_1 ∧ Aside0 (laws_eqIntS.l0 kq l0 l1 x5_1 = some r) ∧ Aside0 (kq ≤ k) ∧ Drawn0 w w')
    case atStart => exact ⟨(0), (by first | rfl | (simp; done) | (simp [*]; done)), H', ⟨Nat.le_refl _⟩, by repeat (first | exact Drawn0.refl _ | apply Drawn0.step)⟩
    case round =>
      clear H'
      try clear c1
      try clear c2
      try clear p2
      try clear c3
      try clear c3b0
      try clear c3b1
      try clear c3b2
      obtain ⟨x5_1, rfl, HA, HK1, ⟨m1, rfl⟩⟩ := hrel
      cases gk with
      | zero => exact absurd HA.out (by simp [laws_eqIntS.l0])
      | succ k1 =>
        have H := HA.out
        clear HA
        simp only [laws_eqIntS.l0] at H
        by_cases c4 : x5_1 < (l0.length : Int)
        · rw [if_pos c4] at H
          have c4b0 : decide (x5_1 < (l0.length : Int)) = true := decide_eq_true c4
          clear c4
          by_cases c5 : 0 ≤ x5_1
          · rw [if_pos c5] at H
            have c5b0 : decide (0 ≤ x5_1) = true := decide_eq_true c5
            clear c5
            by_cases c6 : x5_1 < (l1.length : Int)
            · rw [if_pos c6] at H
              have c6b0 : decide (x5_1 < (l1.length : Int)) = true := decide_eq_true c6
              clear c6
              by_cases c7 : (rd l0 x5_1) = (rd l1 x5_1)
              · rw [if_pos c7] at H
                have c7b0 : ((rd l0 x5_1) == (rd l1 x5_1)) = true := beq_iff_eq.mpr c7
                have c7b1 : ((rd l0 x5_1) != (rd l1 x5_1)) = false := bne_eq_false_iff_eq.mpr c7
                clear c7
                have H' := Aside0.mk H
                clear H
                have p103 : 0 ≤ (x5_1 : Int) := of_decide_eq_true (by first | (with_reducible assumption) | assumption)
                have q103 : x5_1 < (l0.length : Int) := of_decide_eq_true (by first | (with_reducible assumption) | assumption)
                obtain ⟨ad103, e103, hx103_0⟩ := Kd.at_int HR0.out x5_1 p103 q103
                cases e103
                replace p103 := eq_true p103
                replace q103 := eq_true q103
                have p104 : 0 ≤ (x5_1 : Int) := of_decide_eq_true (by first | (with_reducible assumption) | assumption)
                have q104 : x5_1 < (l1.length : Int) := of_decide_eq_true (by first | (with_reducible assumption) | assumption)
                obtain ⟨ad104, e104, hx104_0⟩ := Kd.at_int HR1.out x5_1 p104 q104
                cases e104
                replace p104 := eq_true p104
                replace q104 := eq_true q104
                go_wp2
                repeat (go_quiet (fail); try go_wp2)
                go_roundg k1
                case measure => have := HK1.out; omega
                case rel => exact ⟨(wrap64 (x5_1 + 1)), (by first | rfl | (simp; done) | (simp [*]; done)), H', ⟨by have := HK1.out; omega⟩, by repeat (first | exact Drawn0.refl _ | apply Drawn0.step)⟩
              · rw [if_neg c7] at H
                have c7b0 : ((rd l0 x5_1) == (rd l1 x5_1)) = false := beq_eq_false_iff_ne.mpr c7
                have c7b1 : ((rd l0 x5_1) != (rd l1 x5_1)) = true := bne_iff_ne.mpr c7
                obtain rfl := Option.some.inj H
                have p103 : 0 ≤ (x5_1 : Int) := of_decide_eq_true (by first | (with_reducible assumption) | assumption)
                have q103 : x5_1 < (l0.length : Int) := of_decide_eq_true (by first | (with_reducible assumption) | assumption)
                obtain ⟨ad103, e103, hx103_0⟩ := Kd.at_int HR0.out x5_1 p103 q103
                cases e103
                replace p103 := eq_true p103
                replace q103 := eq_true q103
                have p104 : 0 ≤ (x5_1 : Int) := of_decide_eq_true (by first | (with_reducible assumption) | assumption)
                have q104 : x5_1 < (l1.length : Int) := of_decide_eq_true (by first | (with_reducible assumption) | assumption)
                obtain ⟨ad104, e104, hx104_0⟩ := Kd.at_int HR1.out x5_1 p104 q104
                cases e104
                replace p104 := eq_true p104
                replace q104 := eq_true q104
                go_wp2
                repeat (go_quiet (fail); try go_wp2)
                go_ret
                exact ⟨by first | rfl | (simp; done) | (simp [*]; done), by repeat (first | exact Drawn0.refl _ | apply Drawn0.step)⟩
            · rw [if_neg c6] at H
              exact absurd H (by simp)
          · rw [if_neg c5] at H
            exact absurd H (by simp)
        · rw [if_neg c4] at H
          have c4b0 : decide (x5_1 < (l0.length : Int)) = false := decide_eq_false c4
          clear c4
          obtain rfl := Option.some.inj H
          go_wp2
          repeat (go_quiet (fail); try go_wp2)
          go_ret
          exact ⟨by first | rfl | (simp; done) | (simp [*]; done), by repeat (first | exact Drawn0.refl _ | apply Drawn0.step)⟩
  · rw [if_neg c3] at H
    have c3b0 : ((l0.length : Int) == (l1.length : Int)) = false := beq_eq_false_iff_ne.mpr c3
    have c3b1 : ((l0.length : Int) != (l1.length : Int)) = true := bne_iff_ne.mpr c3
    have c3b2 : (l0.length == l1.length) = false := by first | simpa using c3 | (simp at c3 ⊢; omega)
    obtain rfl := Option.some.inj H
    go_enter Try.func24, Try.ntmps24
    go_wp2
    repeat (go_quiet (fail); try go_wp2)
    go_ret
    exact ⟨by first | rfl | (simp; done) | (simp [*]; done), by repeat (first | exact Drawn0.refl _ | apply Drawn0.step)⟩

/-! ### laws_eqNode: function 52 -/
def laws_eqNode.f (k : Nat) (l0_0 : List Int) (l0_1 : List Int) (l1_0 : List Int) (l1_1 : List Int) : Option (Bool) := (laws_eqIntS.f k l0_0 l1_0).bind fun t107 => (if t107 = true then ((laws_eqIntS.f k l0_1 l1_1).bind fun t108 => (if t108 = true then (some true) else (some false))) else (some false))
theorem laws_eqNode.mono : ∀ a0 a1 a2 a3 k, LeO (laws_eqNode.f k a0 a1 a2 a3) (laws_eqNode.f (k + 1) a0 a1 a2 a3) := by
  intro a0 a1 a2 a3 k
  unfold laws_eqNode.f
  repeat' first
      | (with_reducible exact laws_eqIntS.mono _ _ _)
      | (with_reducible exact LeO.refl _)
      | (with_reducible exact LeO.none _)
      | (with_reducible refine LeO.ite ?_ ?_)
      | (with_reducible refine LeO.bind ?_ (fun _ => ?_))
      | exact laws_eqIntS.mono _ _ _
      | exact LeO.none _
      | refine LeO.ite ?_ ?_
      | refine LeO.bind ?_ (fun _ => ?_)
set_option maxHeartbeats 8000000 in
set_option maxRecDepth 100000 in
theorem laws_eqNode.calls (k : Nat) (A0_0 : Option Addr) (c0_0 : Nat) (l0_0 : List Int) (A0_1 : Option Addr) (c0_1 : Nat) (l0_1 : List Int) (A1_0 : Option Addr) (c1_0 : Nat) (l1_0 : List Int) (A1_1 : Option Addr) (c1_1 : Nat) (l1_1 : List Int) (r : Bool) (w : World) (hr0_0 : Kd.C (Kd.int .i64) w A0_0 l0_0.length l0_0) (hc0_0 : l0_0.length ≤ c0_0) (hr0_1 : Kd.C (Kd.int .i64) w A0_1 l0_1.length l0_1) (hc0_1 : l0_1.length ≤ c0_1) (hr1_0 : Kd.C (Kd.int .i64) w A1_0 l1_0.length l1_0) (hc1_0 : l1_0.length ≤ c1_0) (hr1_1 : Kd.C (Kd.int .i64) w A1_1 l1_1.length l1_1) (hc1_1 : l1_1.length ≤ c1_1) (h : laws_eqNode.f k l0_0 l0_1 l1_0 l1_1 = some r) :
    Calls Try.prog 52 #[.agg #[.slice A0_0 l0_0.length c0_0, .slice A0_1 l0_1.length c0_1], .agg #[.slice A1_0 l1_0.length c1_0, .slice A1_1 l1_1.length c1_1]] w fun e w' => e = .returned (.bool r) ∧ Below w.heap.size w w' := by
  have hu50 := Try.underlying50
  have HR0_0 := Aside0.mk hr0_0
  have HC0_0 := Aside0.mk hc0_0
  clear hr0_0 hc0_0
  have HR0_1 := Aside0.mk hr0_1
  have HC0_1 := Aside0.mk hc0_1
  clear hr0_1 hc0_1
  have HR1_0 := Aside0.mk hr1_0
  have HC1_0 := Aside0.mk hc1_0
  clear hr1_0 hc1_0
  have HR1_1 := Aside0.mk hr1_1
  have HC1_1 := Aside0.mk hc1_1
  clear hr1_1 hc1_1
  have HB := Aside0.mk (Below.refl w.heap.size w)
  have H : ((laws_eqIntS.f k l0_0 l1_0).bind fun t107 => (if t107 = true then ((laws_eqIntS.f k l0_1 l1_1).bind fun t108 => (if t108 = true then (some true) else (some false))) else (some false))) = some r := h
  clear h
  replace H := Option.bind_eq_some_iff.mp H
  obtain ⟨t107, A30, H⟩ := H
  replace H : (if t107 = true then ((laws_eqIntS.f k l0_1 l1_1).bind fun t108 => (if t108 = true then (some true) else (some false))) else (some false)) = some r := H
  have A3 := Aside0.mk A30
  clear A30
  by_cases c4 : t107 = true
  · subst c4
    have H1 : ((laws_eqIntS.f k l0_1 l1_1).bind fun t108 => (if t108 = true then (some true) else (some false))) = some r := by rw [if_pos rfl] at H; exact H
    clear H
    have H := H1
    clear H1
    replace H := Option.bind_eq_some_iff.mp H
    obtain ⟨t108, A50, H⟩ := H
    replace H : (if t108 = true then (some true) else (some false)) = some r := H
    have A5 := Aside0.mk A50
    clear A50
    by_cases c6 : t108 = true
    · subst c6
      have H1 : (some true) = some r := by rw [if_pos rfl] at H; exact H
      clear H
      have H := H1
      clear H1
      obtain rfl := Option.some.inj H
      go_enter Try.func52, Try.ntmps52
      go_wp2_with (first | ((with_reducible refine gate_dst (N := 2) rfl ?_); refine box_event ?hg (N := 2) ?hd (cs := #[.slice A0_0 l0_0.length c0_0, .slice A0_1 l0_1.length c0_1]) (t := 50) ?hr ?_; (case hd => rfl); (case hg => rfl); (case hr => first | (go_simp; done) | (go_simp; rfl)); intro gb105 hg w7 hbox hb; have n0_ := Aside0.mk (below_step (by repeat (first | (with_reducible first | exact HB.out | apply below_alloc | apply pw_below_drewN | apply below_drew1) | exact HB.out)) hb); have n1_ := Aside0.mk (hbox); have n2_ := Aside0.mk ((by rw [hg]; exact (below_size (by repeat (first | (with_reducible first | exact HB.out | apply below_alloc | apply pw_below_drewN | apply below_drew1) | exact HB.out))) : w.heap.size ≤ gb105)); have n3_ := Aside0.mk ((by rw [hg]; exact (below_size (by repeat (first | (with_reducible first | exact HB.out | apply below_alloc | apply pw_below_drewN | apply below_drew1) | exact HB.out))) : w.heap.size ≤ gb105)); clear HB; have HB := n0_; have BK105 := n1_; have GW105 := n2_; have GE105 := n3_; clear n0_ n1_ n2_ n3_; clear hb hbox hg) | ((with_reducible refine gate_dst (N := 3) rfl ?_); refine box_event ?hg (N := 3) ?hd (cs := #[.slice A1_0 l1_0.length c1_0, .slice A1_1 l1_1.length c1_1]) (t := 50) ?hr ?_; (case hd => rfl); (case hg => rfl); (case hr => first | (go_simp; done) | (go_simp; rfl)); intro gb106 hg w8 hbox hb; have n0_ := Aside0.mk (blk_below (g := gb105) (o := .cells #[.slice A0_0 l0_0.length c0_0, .slice A0_1 l0_1.length c0_1] 50 (0, 0)) (by (with_reducible repeat (first | refine blk_drewN ?_ _ | refine blk_drew ?_ | refine blk_alloc ?_ _)); exact BK105.out) hb); have n1_ := Aside0.mk (below_step (by repeat (first | (with_reducible first | exact HB.out | apply below_alloc | apply pw_below_drewN | apply below_drew1 | refine below_set ?_ GE105.out) | exact HB.out)) hb); have n2_ := Aside0.mk (hbox); have n3_ := Aside0.mk ((by rw [hg]; exact (below_size (by repeat (first | (with_reducible first | exact HB.out | apply below_alloc | apply pw_below_drewN | apply below_drew1 | refine below_set ?_ GE105.out) | exact HB.out))) : w.heap.size ≤ gb106)); have n4_ := Aside0.mk ((by rw [hg]; exact (below_size (by repeat (first | (with_reducible first | exact HB.out | apply below_alloc | apply pw_below_drewN | apply below_drew1 | refine below_set ?_ GE105.out) | exact HB.out))) : w.heap.size ≤ gb106)); have n5_ := Aside0.mk ((by rw [hg]; exact Nat.ne_of_lt (blk_lt (g := gb105) (o := .cells #[.slice A0_0 l0_0.length c0_0, .slice A0_1 l0_1.length c0_1] 50 (0, 0)) (by (with_reducible repeat (first | refine blk_drewN ?_ _ | refine blk_drew ?_ | refine blk_alloc ?_ _)); exact BK105.out)) : gb105 ≠ gb106)); have n6_ := Aside0.mk ((by rw [hg]; exact Nat.ne_of_gt (blk_lt (g := gb105) (o := .cells #[.slice A0_0 l0_0.length c0_0, .slice A0_1 l0_1.length c0_1] 50 (0, 0)) (by (with_reducible repeat (first | refine blk_drewN ?_ _ | refine blk_drew ?_ | refine blk_alloc ?_ _)); exact BK105.out)) : gb106 ≠ gb105)); clear BK105; clear HB; have BK105 := n0_; have HB := n1_; have BK106 := n2_; have GW106 := n3_; have GE106 := n4_; have NB105_106 := n5_; have NB106_105 := n6_; clear n0_ n1_ n2_ n3_ n4_ n5_ n6_; clear hb hbox hg; have hnb9 := NB105_106.out; have hnc9 := NB106_105.out; have hcz10_0 : w8.cell? ⟨gb105, 0, none⟩ = some (.slice A0_0 l0_0.length c0_0) := (blk_cell BK105.out 0).trans rfl; have hcz10_1 : w8.cell? ⟨gb105, 1, none⟩ = some (.slice A0_1 l0_1.length c0_1) := (blk_cell BK105.out 1).trans rfl; have hfz10_0 := blk_frozen BK105.out 0; have hfz10_1 := blk_frozen BK105.out 1; have hcz11_0 : w8.cell? ⟨gb106, 0, none⟩ = some (.slice A1_0 l1_0.length c1_0) := (blk_cell BK106.out 0).trans rfl; have hcz11_1 : w8.cell? ⟨gb106, 1, none⟩ = some (.slice A1_1 l1_1.length c1_1) := (blk_cell BK106.out 1).trans rfl; have hfz11_0 := blk_frozen BK106.out 0; have hfz11_1 := blk_frozen BK106.out 1) | ((with_reducible refine gate_callee (f := 24) rfl ?_); refine goesL_ (some 9) rfl rfl Try.func24 (by kernel_rfl) rfl #[.slice A0_0 l0_0.length c0_0, .slice A1_0 l1_0.length c1_0] rfl (by (try simp only [List.map_toArray, List.map_cons, List.map_nil]); first | done | rfl | (simp only [List.length_drop, List.length_take]; rfl)) ?_; (with_reducible refine (laws_eqIntS.calls k _ _ l0_0 _ _ l1_0 true _ ?side1 ?side2 ?side3 ?side4 A3.out).mono ?_); (case side1 => repeat (first | exact (Kd.C_below HR0_0.out HB.out) | (with_reducible refine Kd.C_alloc ?_ _) | (with_reducible refine Kd.C_drewN ?_ _) | (with_reducible refine Kd.C_drew ?_))); (case side2 => exact HC0_0.out); (case side3 => repeat (first | exact (Kd.C_below HR1_0.out HB.out) | (with_reducible refine Kd.C_alloc ?_ _) | (with_reducible refine Kd.C_drewN ?_ _) | (with_reducible refine Kd.C_drew ?_))); (case side4 => exact HC1_0.out); rintro e w' ⟨rfl, ⟨nd, rfl⟩⟩; refine ⟨_, rfl, ?_⟩) | ((with_reducible refine gate_callee (f := 24) rfl ?_); refine goesL_ (some 15) rfl rfl Try.func24 (by kernel_rfl) rfl #[.slice A0_1 l0_1.length c0_1, .slice A1_1 l1_1.length c1_1] rfl (by (try simp only [List.map_toArray, List.map_cons, List.map_nil]); first | done | rfl | (simp only [List.length_drop, List.length_take]; rfl)) ?_; (with_reducible refine (laws_eqIntS.calls k _ _ l0_1 _ _ l1_1 true _ ?side1 ?side2 ?side3 ?side4 A5.out).mono ?_); (case side1 => repeat (first | exact (Kd.C_below HR0_1.out (by repeat (first | (with_reducible first | exact HB.out | apply below_alloc | apply pw_below_drewN | apply below_drew1 | refine below_set ?_ GE105.out | refine below_set ?_ GE106.out) | exact HB.out))) | (with_reducible refine Kd.C_alloc ?_ _) | (with_reducible refine Kd.C_drewN ?_ _) | (with_reducible refine Kd.C_drew ?_))); (case side2 => exact HC0_1.out); (case side3 => repeat (first | exact (Kd.C_below HR1_1.out (by repeat (first | (with_reducible first | exact HB.out | apply below_alloc | apply pw_below_drewN | apply below_drew1 | refine below_set ?_ GE105.out | refine below_set ?_ GE106.out) | exact HB.out))) | (with_reducible refine Kd.C_alloc ?_ _) | (with_reducible refine Kd.C_drewN ?_ _) | (with_reducible refine Kd.C_drew ?_))); (case side4 => exact HC1_1.out); rintro e w' ⟨rfl, ⟨nd, rfl⟩⟩; refine ⟨_, rfl, ?_⟩))
      go_ret
      exact ⟨by first | rfl | (simp [errW_none, errW_some] <;> rfl) | (simp [*, errW_none, errW_some] <;> rfl), by repeat (first | (with_reducible first | exact HB.out | apply below_alloc | apply pw_below_drewN | apply below_drew1 | refine below_set ?_ GE105.out | refine below_set ?_ GE106.out) | exact HB.out)⟩
    · replace c6 := Bool.eq_false_iff.mpr c6
      subst c6
      have H1 : (some false) = some r := by rw [if_neg (show ¬ (false = true) by decide)] at H; exact H
      clear H
      have H := H1
      clear H1
      obtain rfl := Option.some.inj H
      go_enter Try.func52, Try.ntmps52
      go_wp2_with (first | ((with_reducible refine gate_dst (N := 2) rfl ?_); refine box_event ?hg (N := 2) ?hd (cs := #[.slice A0_0 l0_0.length c0_0, .slice A0_1 l0_1.length c0_1]) (t := 50) ?hr ?_; (case hd => rfl); (case hg => rfl); (case hr => first | (go_simp; done) | (go_simp; rfl)); intro gb105 hg w12 hbox hb; have n0_ := Aside0.mk (below_step (by repeat (first | (with_reducible first | exact HB.out | apply below_alloc | apply pw_below_drewN | apply below_drew1) | exact HB.out)) hb); have n1_ := Aside0.mk (hbox); have n2_ := Aside0.mk ((by rw [hg]; exact (below_size (by repeat (first | (with_reducible first | exact HB.out | apply below_alloc | apply pw_below_drewN | apply below_drew1) | exact HB.out))) : w.heap.size ≤ gb105)); have n3_ := Aside0.mk ((by rw [hg]; exact (below_size (by repeat (first | (with_reducible first | exact HB.out | apply below_alloc | apply pw_below_drewN | apply below_drew1) | exact HB.out))) : w.heap.size ≤ gb105)); clear HB; have HB := n0_; have BK105 := n1_; have GW105 := n2_; have GE105 := n3_; clear n0_ n1_ n2_ n3_; clear hb hbox hg) | ((with_reducible refine gate_dst (N := 3) rfl ?_); refine box_event ?hg (N := 3) ?hd (cs := #[.slice A1_0 l1_0.length c1_0, .slice A1_1 l1_1.length c1_1]) (t := 50) ?hr ?_; (case hd => rfl); (case hg => rfl); (case hr => first | (go_simp; done) | (go_simp; rfl)); intro gb106 hg w13 hbox hb; have n0_ := Aside0.mk (blk_below (g := gb105) (o := .cells #[.slice A0_0 l0_0.length c0_0, .slice A0_1 l0_1.length c0_1] 50 (0, 0)) (by (with_reducible repeat (first | refine blk_drewN ?_ _ | refine blk_drew ?_ | refine blk_alloc ?_ _)); exact BK105.out) hb); have n1_ := Aside0.mk (below_step (by repeat (first | (with_reducible first | exact HB.out | apply below_alloc | apply pw_below_drewN | apply below_drew1 | refine below_set ?_ GE105.out) | exact HB.out)) hb); have n2_ := Aside0.mk (hbox); have n3_ := Aside0.mk ((by rw [hg]; exact (below_size (by repeat (first | (with_reducible first | exact HB.out | apply below_alloc | apply pw_below_drewN | apply below_drew1 | refine below_set ?_ GE105.out) | exact HB.out))) : w.heap.size ≤ gb106)); have n4_ := Aside0.mk ((by rw [hg]; exact (below_size (by repeat (first | (with_reducible first | exact HB.out | apply below_alloc | apply pw_below_drewN | apply below_drew1 | refine below_set ?_ GE105.out) | exact HB.out))) : w.heap.size ≤ gb106)); have n5_ := Aside0.mk ((by rw [hg]; exact Nat.ne_of_lt (blk_lt (g := gb105) (o := .cells #[.slice A0_0 l0_0.length c0_0, .slice A0_1 l0_1.length c0_1] 50 (0, 0)) (by (with_reducible repeat (first | refine blk_drewN ?_ _ | refine blk_drew ?_ | refine blk_alloc ?_ _)); exact BK105.out)) : gb105 ≠ gb106)); have n6_ := Aside0.mk ((by rw [hg]; exact Nat.ne_of_gt (blk_lt (g := gb105) (o := .cells #[.slice A0_0 l0_0.length c0_0, .slice A0_1 l0_1.length c0_1] 50 (0, 0)) (by (with_reducible repeat (first | refine blk_drewN ?_ _ | refine blk_drew ?_ | refine blk_alloc ?_ _)); exact BK105.out)) : gb106 ≠ gb105)); clear BK105; clear HB; have BK105 := n0_; have HB := n1_; have BK106 := n2_; have GW106 := n3_; have GE106 := n4_; have NB105_106 := n5_; have NB106_105 := n6_; clear n0_ n1_ n2_ n3_ n4_ n5_ n6_; clear hb hbox hg; have hnb14 := NB105_106.out; have hnc14 := NB106_105.out; have hcz15_0 : w13.cell? ⟨gb105, 0, none⟩ = some (.slice A0_0 l0_0.length c0_0) := (blk_cell BK105.out 0).trans rfl; have hcz15_1 : w13.cell? ⟨gb105, 1, none⟩ = some (.slice A0_1 l0_1.length c0_1) := (blk_cell BK105.out 1).trans rfl; have hfz15_0 := blk_frozen BK105.out 0; have hfz15_1 := blk_frozen BK105.out 1; have hcz16_0 : w13.cell? ⟨gb106, 0, none⟩ = some (.slice A1_0 l1_0.length c1_0) := (blk_cell BK106.out 0).trans rfl; have hcz16_1 : w13.cell? ⟨gb106, 1, none⟩ = some (.slice A1_1 l1_1.length c1_1) := (blk_cell BK106.out 1).trans rfl; have hfz16_0 := blk_frozen BK106.out 0; have hfz16_1 := blk_frozen BK106.out 1) | ((with_reducible refine gate_callee (f := 24) rfl ?_); refine goesL_ (some 9) rfl rfl Try.func24 (by kernel_rfl) rfl #[.slice A0_0 l0_0.length c0_0, .slice A1_0 l1_0.length c1_0] rfl (by (try simp only [List.map_toArray, List.map_cons, List.map_nil]); first | done | rfl | (simp only [List.length_drop, List.length_take]; rfl)) ?_; (with_reducible refine (laws_eqIntS.calls k _ _ l0_0 _ _ l1_0 true _ ?side1 ?side2 ?side3 ?side4 A3.out).mono ?_); (case side1 => repeat (first | exact (Kd.C_below HR0_0.out HB.out) | (with_reducible refine Kd.C_alloc ?_ _) | (with_reducible refine Kd.C_drewN ?_ _) | (with_reducible refine Kd.C_drew ?_))); (case side2 => exact HC0_0.out); (case side3 => repeat (first | exact (Kd.C_below HR1_0.out HB.out) | (with_reducible refine Kd.C_alloc ?_ _) | (with_reducible refine Kd.C_drewN ?_ _) | (with_reducible refine Kd.C_drew ?_))); (case side4 => exact HC1_0.out); rintro e w' ⟨rfl, ⟨nd, rfl⟩⟩; refine ⟨_, rfl, ?_⟩) | ((with_reducible refine gate_callee (f := 24) rfl ?_); refine goesL_ (some 15) rfl rfl Try.func24 (by kernel_rfl) rfl #[.slice A0_1 l0_1.length c0_1, .slice A1_1 l1_1.length c1_1] rfl (by (try simp only [List.map_toArray, List.map_cons, List.map_nil]); first | done | rfl | (simp only [List.length_drop, List.length_take]; rfl)) ?_; (with_reducible refine (laws_eqIntS.calls k _ _ l0_1 _ _ l1_1 false _ ?side1 ?side2 ?side3 ?side4 A5.out).mono ?_); (case side1 => repeat (first | exact (Kd.C_below HR0_1.out (by repeat (first | (with_reducible first | exact HB.out | apply below_alloc | apply pw_below_drewN | apply below_drew1 | refine below_set ?_ GE105.out | refine below_set ?_ GE106.out) | exact HB.out))) | (with_reducible refine Kd.C_alloc ?_ _) | (with_reducible refine Kd.C_drewN ?_ _) | (with_reducible refine Kd.C_drew ?_))); (case side2 => exact HC0_1.out); (case side3 => repeat (first | exact (Kd.C_below HR1_1.out (by repeat (first | (with_reducible first | exact HB.out | apply below_alloc | apply pw_below_drewN | apply below_drew1 | refine below_set ?_ GE105.out | refine below_set ?_ GE106.out) | exact HB.out))) | (with_reducible refine Kd.C_alloc ?_ _) | (with_reducible refine Kd.C_drewN ?_ _) | (with_reducible refine Kd.C_drew ?_))); (case side4 => exact HC1_1.out); rintro e w' ⟨rfl, ⟨nd, rfl⟩⟩; refine ⟨_, rfl, ?_⟩))
      go_ret
      exact ⟨by first | rfl | (simp [errW_none, errW_some] <;> rfl) | (simp [*, errW_none, errW_some] <;> rfl), by repeat (first | (with_reducible first | exact HB.out | apply below_alloc | apply pw_below_drewN | apply below_drew1 | refine below_set ?_ GE105.out | refine below_set ?_ GE106.out) | exact HB.out)⟩
  · replace c4 := Bool.eq_false_iff.mpr c4
    subst c4
    have H1 : (some false) = some r := by rw [if_neg (show ¬ (false = true) by decide)] at H; exact H
    clear H
    have H := H1
    clear H1
    obtain rfl := Option.some.inj H
    go_enter Try.func52, Try.ntmps52
    go_wp2_with (first | ((with_reducible refine gate_dst (N := 2) rfl ?_); refine box_event ?hg (N := 2) ?hd (cs := #[.slice A0_0 l0_0.length c0_0, .slice A0_1 l0_1.length c0_1]) (t := 50) ?hr ?_; (case hd => rfl); (case hg => rfl); (case hr => first | (go_simp; done) | (go_simp; rfl)); intro gb105 hg w17 hbox hb; have n0_ := Aside0.mk (below_step (by repeat (first | (with_reducible first | exact HB.out | apply below_alloc | apply pw_below_drewN | apply below_drew1) | exact HB.out)) hb); have n1_ := Aside0.mk (hbox); have n2_ := Aside0.mk ((by rw [hg]; exact (below_size (by repeat (first | (with_reducible first | exact HB.out | apply below_alloc | apply pw_below_drewN | apply below_drew1) | exact HB.out))) : w.heap.size ≤ gb105)); have n3_ := Aside0.mk ((by rw [hg]; exact (below_size (by repeat (first | (with_reducible first | exact HB.out | apply below_alloc | apply pw_below_drewN | apply below_drew1) | exact HB.out))) : w.heap.size ≤ gb105)); clear HB; have HB := n0_; have BK105 := n1_; have GW105 := n2_; have GE105 := n3_; clear n0_ n1_ n2_ n3_; clear hb hbox hg) | ((with_reducible refine gate_dst (N := 3) rfl ?_); refine box_event ?hg (N := 3) ?hd (cs := #[.slice A1_0 l1_0.length c1_0, .slice A1_1 l1_1.length c1_1]) (t := 50) ?hr ?_; (case hd => rfl); (case hg => rfl); (case hr => first | (go_simp; done) | (go_simp; rfl)); intro gb106 hg w18 hbox hb; have n0_ := Aside0.mk (blk_below (g := gb105) (o := .cells #[.slice A0_0 l0_0.length c0_0, .slice A0_1 l0_1.length c0_1] 50 (0, 0)) (by (with_reducible repeat (first | refine blk_drewN ?_ _ | refine blk_drew ?_ | refine blk_alloc ?_ _)); exact BK105.out) hb); have n1_ := Aside0.mk (below_step (by repeat (first | (with_reducible first | exact HB.out | apply below_alloc | apply pw_below_drewN | apply below_drew1 | refine below_set ?_ GE105.out) | exact HB.out)) hb); have n2_ := Aside0.mk (hbox); have n3_ := Aside0.mk ((by rw [hg]; exact (below_size (by repeat (first | (with_reducible first | exact HB.out | apply below_alloc | apply pw_below_drewN | apply below_drew1 | refine below_set ?_ GE105.out) | exact HB.out))) : w.heap.size ≤ gb106)); have n4_ := Aside0.mk ((by rw [hg]; exact (below_size (by repeat (first | (with_reducible first | exact HB.out | apply below_alloc | apply pw_below_drewN | apply below_drew1 | refine below_set ?_ GE105.out) | exact HB.out))) : w.heap.size ≤ gb106)); have n5_ := Aside0.mk ((by rw [hg]; exact Nat.ne_of_lt (blk_lt (g := gb105) (o := .cells #[.slice A0_0 l0_0.length c0_0, .slice A0_1 l0_1.length c0_1] 50 (0, 0)) (by (with_reducible repeat (first | refine blk_drewN ?_ _ | refine blk_drew ?_ | refine blk_alloc ?_ _)); exact BK105.out)) : gb105 ≠ gb106)); have n6_ := Aside0.mk ((by rw [hg]; exact Nat.ne_of_gt (blk_lt (g := gb105) (o := .cells #[.slice A0_0 l0_0.length c0_0, .slice A0_1 l0_1.length c0_1] 50 (0, 0)) (by (with_reducible repeat (first | refine blk_drewN ?_ _ | refine blk_drew ?_ | refine blk_alloc ?_ _)); exact BK105.out)) : gb106 ≠ gb105)); clear BK105; clear HB; have BK105 := n0_; have HB := n1_; have BK106 := n2_; have GW106 := n3_; have GE106 := n4_; have NB105_106 := n5_; have NB106_105 := n6_; clear n0_ n1_ n2_ n3_ n4_ n5_ n6_; clear hb hbox hg; have hnb19 := NB105_106.out; have hnc19 := NB106_105.out; have hcz20_0 : w18.cell? ⟨gb105, 0, none⟩ = some (.slice A0_0 l0_0.length c0_0) := (blk_cell BK105.out 0).trans rfl; have hcz20_1 : w18.cell? ⟨gb105, 1, none⟩ = some (.slice A0_1 l0_1.length c0_1) := (blk_cell BK105.out 1).trans rfl; have hfz20_0 := blk_frozen BK105.out 0; have hfz20_1 := blk_frozen BK105.out 1; have hcz21_0 : w18.cell? ⟨gb106, 0, none⟩ = some (.slice A1_0 l1_0.length c1_0) := (blk_cell BK106.out 0).trans rfl; have hcz21_1 : w18.cell? ⟨gb106, 1, none⟩ = some (.slice A1_1 l1_1.length c1_1) := (blk_cell BK106.out 1).trans rfl; have hfz21_0 := blk_frozen BK106.out 0; have hfz21_1 := blk_frozen BK106.out 1) | ((with_reducible refine gate_callee (f := 24) rfl ?_); refine goesL_ (some 9) rfl rfl Try.func24 (by kernel_rfl) rfl #[.slice A0_0 l0_0.length c0_0, .slice A1_0 l1_0.length c1_0] rfl (by (try simp only [List.map_toArray, List.map_cons, List.map_nil]); first | done | rfl | (simp only [List.length_drop, List.length_take]; rfl)) ?_; (with_reducible refine (laws_eqIntS.calls k _ _ l0_0 _ _ l1_0 false _ ?side1 ?side2 ?side3 ?side4 A3.out).mono ?_); (case side1 => repeat (first | exact (Kd.C_below HR0_0.out HB.out) | (with_reducible refine Kd.C_alloc ?_ _) | (with_reducible refine Kd.C_drewN ?_ _) | (with_reducible refine Kd.C_drew ?_))); (case side2 => exact HC0_0.out); (case side3 => repeat (first | exact (Kd.C_below HR1_0.out HB.out) | (with_reducible refine Kd.C_alloc ?_ _) | (with_reducible refine Kd.C_drewN ?_ _) | (with_reducible refine Kd.C_drew ?_))); (case side4 => exact HC1_0.out); rintro e w' ⟨rfl, ⟨nd, rfl⟩⟩; refine ⟨_, rfl, ?_⟩))
    go_ret
    exact ⟨by first | rfl | (simp [errW_none, errW_some] <;> rfl) | (simp [*, errW_none, errW_some] <;> rfl), by repeat (first | (with_reducible first | exact HB.out | apply below_alloc | apply pw_below_drewN | apply below_drew1 | refine below_set ?_ GE105.out | refine below_set ?_ GE106.out) | exact HB.out)⟩

end Go.Proofs.Ytdaikmojalfimaa.QFnExactGraphNew
