/-
  Texts of this claim, put together.
-/
import Derived.RangeFuncNested
import Derived.RangeFuncBound
import Derived.RangeFuncCalls
import Derived.RangeFuncLeaves
import Derived.Shelf.Abstract
import Derived.Shelf.RegionOpen
import Derived.WalkKit
import Derived.OwnWalkIn
import Derived.TacticsInMore
import Derived.LoopNIn
import Derived.LoopIn
import Derived.Test.YteencdgaldhanaaGreatDoorIT3
import Derived.RangeFuncBox
import Derived.Maps.AppendAt
import Derived.Test.YteencdgaldhanaaGreatDoorNSpan

section
namespace Go.Proofs.YteencdgaldhanaaGreatDoor
open Go.RowKit Go.Shelf
attribute [local go_sem] Oper.semAt_some

set_option maxRecDepth 100000 in
set_option maxHeartbeats 2000000 in
theorem spVals1_in (F : Fence) (n : Nat) (h7 : F.fn 113) (hro : F.round = none) (hn : 1 ≤ n) (l Bs n₀ b off cap : Nat) (zs : List SpanV) (hlen : zs.length ≤ 4294967296) (hb : b < n₀) (J Jx : List SpanV → World → Prop)
    (hY : ∀ pre x W, J pre W → pre.length < zs.length → YieldAt F (n - 1) Tryz.prog l #[valSpan x] W fun e W' => (e = .returned (.bool true) ∧ J (pre ++ [x]) W' ∧ Below n₀ W W') ∨ (e = .returned (.bool false) ∧ Jx (pre ++ [x]) W'))
    (W : World) (hn0 : n₀ ≤ W.heap.size) (hJ : ∀ s A B, J s A → A.grownBy B none → J s B) (hBs : W.cell? ⟨Bs, 0, none⟩ = some (.slice (some ⟨b, off, none⟩) zs.length cap))
    (hc : ∀ k x, zs[k]? = some x → W.cell? ⟨b, off + k * 2, none⟩ = some (.int .i64 x.from_) ∧ W.cell? ⟨b, off + k * 2 + 1, none⟩ = some (.int .i64 x.to_)) (h0 : J [] W) :
    CallsIn F n Tryz.prog 113 #[.func (.yield l) #[] #[], .pointer (some ⟨Bs, 0, none⟩)] W fun e W' => (∃ v, e = .returned v) ∧ (J zs W' ∨ ∃ pre, pre <+: zs ∧ Jx pre W') := by
  refine callsIn_of_wp Tryz.func113 rfl h7 ?_ hro
  simp only [Tryz.ntmps113, List.size_toArray, List.length_cons, List.length_nil, Nat.reduceAdd, Nat.reduceSub, Array.replicate_succ, Array.replicate_zero, List.push_toArray, List.append_toArray, List.nil_append, List.cons_append]
  gi_wp2
  gi_loopw [7] (fun i wr => ∃ k : Nat, k ≤ zs.length ∧ i = .int .i64 k ∧ J (zs.take k) wr ∧ Below n₀ W wr) (fun i _ => zs.length - (intOf i).toNat)
  case atStart => exact ⟨0, Nat.zero_le _, rfl, by simpa using h0, Below.refl _ _⟩
  case round =>
    obtain ⟨k, hk, rfl, hJs, hnx⟩ := hrel
    by_cases hlt : k < zs.length
    · obtain ⟨d0, d1⟩ := hc k _ (List.getElem?_eq_getElem hlt)
      have c0 := (hnx.cell (p := ⟨b, off + k * 2, none⟩) hb).trans d0
      have c1 := (hnx.cell (p := ⟨b, off + k * 2 + 1, none⟩) hb).trans d1
      have ht : zs.take k ++ [zs[k]] = zs.take (k + 1) := (List.take_succ_eq_append_getElem hlt).symm
      generalize zs[k] = x at c0 c1 ht
      clear d0 d1
      obtain ⟨x0, x1⟩ := x
      obtain ⟨fn, tmps, assign, body, hy, hR⟩ := hY (zs.take k) ⟨x0, x1⟩ (wr.alloc (.cells #[.int .i64 x0, .int .i64 x1] 60)) (hJ _ _ _ hJs (World.grownBy_alloc _ _ _)) (by rw [List.length_take]; omega)
      dsimp only [valSpan] at hy
      gi_wp2
      refine hR.mono ?_
      rintro e W3 (⟨rfl, hJ3, hk3⟩ | ⟨rfl, hJx3⟩)
      · gi_wp2
        go_roundw
        case rel => exact ⟨k + 1, by omega, by simp, by rw [← ht]; exact hJ3, (hnx.alloc (Nat.le_trans hn0 hnx.size) _).trans hk3⟩
        case measure => simp [intOf]; omega
      · gi_wp2
        refine bodyPost_ret (results_none rfl _ _ _) rfl ?_
        exact ⟨⟨_, rfl⟩, .inr ⟨_, by rw [ht]; exact List.take_prefix _ _, hJx3⟩⟩
    · obtain rfl : k = zs.length := by omega
      rw [List.take_length] at hJs
      gi_wp2
      go_end0
      exact ⟨⟨_, rfl⟩, .inl hJs⟩

end Go.Proofs.YteencdgaldhanaaGreatDoor
end

section
namespace Go.Proofs.YteencdgaldhanaaGreatDoor
open Go.RowKit Go.Shelf
attribute [local go_sem] Oper.semAt_some

set_option maxRecDepth 100000 in
set_option maxHeartbeats 1000000 in
theorem spVals1_nil_in (F : Fence) (n : Nat) (h7 : F.fn 113) (hro : F.round = none) (l Bs : Nat) (J : List SpanV → World → Prop) (W : World) (hBs : W.cell? ⟨Bs, 0, none⟩ = some (.slice none 0 0)) (h0 : J [] W) :
    CallsIn F n Tryz.prog 113 #[.func (.yield l) #[] #[], .pointer (some ⟨Bs, 0, none⟩)] W fun e W' => (∃ v, e = .returned v) ∧ J [] W' := by
  refine callsIn_of_wp Tryz.func113 rfl h7 ?_ hro
  simp only [Tryz.ntmps113, List.size_toArray, List.length_cons, List.length_nil, Nat.reduceAdd, Nat.reduceSub, Array.replicate_succ, Array.replicate_zero, List.push_toArray, List.append_toArray, List.nil_append, List.cons_append]
  gi_wp2
  gi_loopw [7] (fun i wr => i = .int .i64 0 ∧ J [] wr) (fun _ _ => 0)
  case atStart => exact ⟨rfl, h0⟩
  case round =>
    obtain ⟨rfl, hJs⟩ := hrel
    gi_wp2
    go_end0
    exact ⟨⟨_, rfl⟩, hJs⟩

set_option maxRecDepth 100000 in
theorem spVals_in (F : Fence) (n : Nat) (h5 : F.fn 84) (hro : F.round = none) (a : Option Addr) (len cap : Nat) (w : World) :
    CallsIn F n Tryz.prog 84 #[.slice a len cap] w fun e w' => e = .returned (.func (.func 113) #[] #[.pointer (some ⟨w.heap.size, 0, none⟩)]) ∧ w' = w.alloc (.cells #[.slice a len cap] 24) := by
  refine callsIn_of_wp Tryz.func84 rfl h5 ?_ hro
  simp only [Tryz.ntmps84, List.size_toArray, List.length_cons, List.length_nil, Nat.reduceAdd, Nat.reduceSub, Array.replicate_succ, Array.replicate_zero, List.push_toArray, List.append_toArray, List.nil_append, List.cons_append]
  gi_wp2
  go_ret
  exact ⟨rfl, rfl⟩

/-- The slice value's spans, in a block below n₀. -/
def SpAt (n₀ : Nat) (W : World) (a : Option Addr) (c : Nat) (zs : List SpanV) : Prop :=
  (a = none ∧ c = 0 ∧ zs = []) ∨ ∃ b off, a = some ⟨b, off, none⟩ ∧ b < n₀ ∧ ∀ k x, zs[k]? = some x → W.cell? ⟨b, off + k * 2, none⟩ = some (.int .i64 x.from_) ∧ W.cell? ⟨b, off + k * 2 + 1, none⟩ = some (.int .i64 x.to_)
theorem SpAt.below {n₀ : Nat} {A B : World} {a : Option Addr} {c : Nat} {zs : List SpanV} (h : SpAt n₀ A a c zs) (x : Below n₀ A B) : SpAt n₀ B a c zs := by
  rcases h with h | ⟨b, off, e, hb, hc⟩
  · exact .inl h
  · exact .inr ⟨b, off, e, hb, fun k z hk => ⟨(x.cell (p := ⟨b, off + k * 2, none⟩) hb).trans (hc k z hk).1, (x.cell (p := ⟨b, off + k * 2 + 1, none⟩) hb).trans (hc k z hk).2⟩⟩

theorem spVals_stops (F : Fence) (n : Nat) (h7 : F.fn 113) (hro : F.round = none) (hn : 1 ≤ n) (Bs n₀ : Nat) (a : Option Addr) (c : Nat) (zs : List SpanV) (hlen : zs.length ≤ 4294967296) (w : World) (hBs : Bs < w.heap.size) (hn₀ : n₀ ≤ w.heap.size)
    (hc : w.cell? ⟨Bs, 0, none⟩ = some (.slice a zs.length c)) (hI : SpAt n₀ w a c zs) :
    SeqStopsK F n Tryz.prog 113 #[.pointer (some ⟨Bs, 0, none⟩)] (fun x : SpanV => #[valSpan x]) (Below n₀) (fun ys => ys = zs) (fun pre => pre <+: zs) zs.length w := fun l J Jx W hW hJ _ hY h0 => by
  have hc' := (hW.cell (p := ⟨Bs, 0, none⟩) hBs).trans hc
  rcases hI.below (hW.mono hn₀) with ⟨rfl, rfl, rfl⟩ | ⟨b, off, rfl, hb, hcs⟩
  · exact (spVals1_nil_in F n h7 hro l Bs J W hc' h0).mono fun e W' ⟨he, hj⟩ => ⟨he, .inl ⟨_, rfl, hj⟩⟩
  · refine (spVals1_in F n h7 hro hn l Bs n₀ b off c zs hlen hb J Jx hY W (Nat.le_trans hn₀ hW.size) (fun s A B hs hg => hJ s A B none hs hg (fun r e => by cases e)) hc' hcs h0).mono ?_
    rintro e W' ⟨he, hj | ⟨pre, hp, hj⟩⟩
    · exact ⟨he, .inl ⟨_, rfl, hj⟩⟩
    · exact ⟨he, .inr ⟨_, hp, hj⟩⟩

theorem Tryz.info_Span : (Tryz.prog.info? 60).map (fun i => (i.zero, i.size, i.bytes)) = some (some (.agg #[.int .i64 0, .int .i64 0]), 2, 16) := by kernel_rfl
theorem kindSp_ne : 24 ≠ 60 := by decide
theorem cell_two_new (w : World) (x y : Value) (t : TypeId) : ∀ j u, [x, y][j]? = some u → (w.alloc (.cells #[x, y] t)).cell? ((⟨w.heap.size, 0, none⟩ : Addr).add j) = some u := by
  intro j u hj
  have e : (⟨w.heap.size, 0, none⟩ : Addr).add j = ⟨w.heap.size, j, none⟩ := by simp [Addr.add]; omega
  rw [e, World.cell?_alloc_at _ _ _ _ rfl]
  simpa using hj
/-- What a loop has collected, and where. -/
def ColSp (B : Nat) (w : World) (pre : List SpanV) (W : World) : Prop := (∃ v, Boxed W B 24 v ∧ W.ownsRow B 60 2 v pre.length (pre.flatMap laySp.cells) ∧ True) ∧ Below B w W
def BoxSp (W : World) (B : Nat) (x : SpanV) : Prop := W.heap[B]? = some (.cells #[.int .i64 x.from_, .int .i64 x.to_] 60 (0, 0))
theorem boxSp_own (B Bx : Nat) (x : SpanV) : OwnFrom B (fun (_ : Unit) W => BoxSp W Bx x) := fun _ A C row hs hg hr =>
  (hg.block Bx (Array.getElem?_eq_some_iff.1 hs).1 (fun e => by obtain ⟨_, o, ho, hc⟩ := hr Bx e.symm; rw [show A.heap[Bx]? = _ from hs] at ho; cases ho; cases hc)).trans hs

set_option maxRecDepth 100000 in
set_option maxHeartbeats 2000000 in
theorem spAppend_in (F : Fence) (n : Nat) (h3 : F.fn 135) (h7 : F.fn 113) (hro : F.round = none) (hn : 3 ≤ n) (Bs : Nat) (a : Option Addr) (c : Nat) (zs : List SpanV) (hlen : zs.length ≤ 4294967296) (w : World) (hBs : Bs < w.heap.size)
    (hc : w.cell? ⟨Bs, 0, none⟩ = some (.slice a zs.length c)) (hI : SpAt w.heap.size w a c zs) :
    CallsIn F n Tryz.prog 135 #[.slice none 0 0, .func (.func 113) #[] #[.pointer (some ⟨Bs, 0, none⟩)]] w fun e W' => ∃ v, e = .returned v ∧ W'.ownsRow w.heap.size 60 2 v zs.length (zs.flatMap laySp.cells) ∧ Below w.heap.size w W' := by
  have h1 : 1 ≤ n := by omega
  obtain ⟨i0, hi, hz0, hz1, hz2⟩ := info_parts Tryz.info_Span
  refine callsIn_of_wp_marks Tryz.func135 rfl h3 ?_ hro
  simp only [Tryz.ntmps135, List.size_toArray, List.length_cons, List.length_nil, Nat.reduceAdd, Nat.reduceSub, Array.replicate_succ, Array.replicate_zero, List.push_toArray, List.append_toArray, List.nil_append, List.cons_append]
  gi_wp2
  have bO := Boxed.new w 24 (.slice none 0 0)
  have hB0 : Below w.heap.size w (w.alloc (.cells #[.slice none 0 0] 24)) := (Below.refl _ w).alloc (Nat.le_refl _) _
  refine wpIn_rangeFunc_ownH hro h1 (gf := 113) (lb := #[.pointer (some ⟨Bs, 0, none⟩)]) rfl h7 (enters_of Tryz.func113 (by kernel_rfl) rfl)
    (spVals_stops F (n - 1) h7 hro (by omega) Bs w.heap.size a c zs hlen _ (by simp; omega) (by simp) ((hB0.cell (p := ⟨Bs, 0, none⟩) hBs).trans hc) (hI.below hB0)) belowK_t (belowK_b (by simp)) (Below.refl _ _) (fun _ => rfl)
    (ColSp w.heap.size w) (fun _ _ _ => False)
    (OwnFrom.and (Own.from (holdsRow_own w.heap.size w.heap.size 24 60 2 (fun pre : List SpanV => pre.length) (fun pre => pre.flatMap laySp.cells) (fun _ _ => True)) _) (ownFrom_below (Nat.le_refl _) (by simp)))
    (fun _ _ _ _ _ hs _ _ => hs)
    ⟨⟨_, bO, World.ownsRow_nil _ _ _ _, trivial⟩, hB0⟩
    (fun x a' W => ∃ Bx, w.heap.size < Bx ∧ BoxSp W Bx x ∧ a' = { tmps := #[.slice none 0 0, .func (.func 113) #[] #[.pointer (some ⟨Bs, 0, none⟩)], .pointer (some ⟨w.heap.size, 0, none⟩), undef, .slice none 0 0, .pointer (some ⟨Bx, 0, none⟩), .func (.func 113) #[] #[.pointer (some ⟨Bs, 0, none⟩)], valSpan x, undef, undef, undef, undef, undef], defers := [] })
    (fun x a' => fun s A C row hs hg hr => by
      obtain ⟨Bx, h1, h2, h3⟩ := hs
      exact ⟨Bx, h1, boxSp_own _ _ _ s A C row h2 hg hr, h3⟩)
    ?assign ?body ?done ?stop
  case assign =>
    rintro l pre ⟨x0, x1⟩ W K ⟨⟨v, hv, hrow, _⟩, hB⟩ hK
    simp only [valSpan] at hK ⊢
    gi_wp2
    exact hK _ _ ((KeepsOthers.alloc _ _).from _) ((Below.refl _ W).alloc hB.size _) ⟨⟨v, hv.alloc _, hrow.alloc _, trivial⟩, hB.alloc hB.size _⟩ ⟨W.heap.size, hv.lt, World.alloc_heap_new W _, rfl⟩
  case body =>
    rintro l pre x a' W hl ⟨r, hr⟩ ⟨⟨v, hv, hrow, _⟩, hB⟩ ⟨Bx, hBx, bX, rfl⟩ hlt
    obtain ⟨x0, x1⟩ := x
    have hc := hv.cell
    have d0 : W.cell? ⟨Bx, 0, none⟩ = some (.int .i64 x0) := by simp [World.cell?, show W.heap[Bx]? = _ from bX]
    have d1 : W.cell? ⟨Bx, 1, none⟩ = some (.int .i64 x1) := by simp [World.cell?, show W.heap[Bx]? = _ from bX]
    have hbytes : (pre.length + 1) * 16 ≤ 140737488355328 := by omega
    simp only [valSpan]
    gi_wp2_with (gi_at_builtin; refine wpListIn_append_own _ rfl _ _ 24 rfl w.heap.size 60 i0 (.agg #[.int .i64 0, .int .i64 0]) 2 16 Tryz.underlying24 hi hz0 hz1 hz2 rfl (by decide) _ _ _ rfl (hrow.alloc _) ⟨W.heap.size, 0, none⟩ 1 1 [.int .i64 x0, .int .i64 x1] rfl rfl (cell_two_new _ _ _ _) (by simp [Value.oneCell']) (by unfold maxLen; omega) hbytes (by have := hB.size; simp; omega) ?_; intro v' w1 hown' hgrow _; obtain ⟨g', cap', rfl⟩ := ownsRow_succ hown'; obtain ⟨hv1, hv2, hr2, hk2, hb2⟩ := hv.appended kindSp_ne hrow hB.size (Nat.le_refl _) hown' hgrow; have hc1 := hv1.cell; have hf1 := hv1.frozen)
    exact ⟨hk2.from _, hb2, ⟨_, hv2, by simpa [laySp] using hr2, trivial⟩, hB.trans hb2⟩
  case done =>
    rintro D ys W hD rfl ⟨⟨v, hv, hrow, _⟩, hB⟩ hK
    have hc := hv.cell
    gi_wp2
    refine ⟨by simp, .inl ⟨_, _, rfl, run_takeDeferred hK, ?_⟩⟩
    exact ⟨_, results_tmp rfl _ _ _, v, rfl, ownsRow_putObj hrow _ hK rfl, hB.trans (belowK_b (w := w) (Nat.le_refl _) W D _ _ (by simp at hD; omega) hK rfl rfl)⟩
  case stop =>
    rintro D c pre W _ _ h _
    exact h.elim

end Go.Proofs.YteencdgaldhanaaGreatDoor
end

section
namespace Go.Proofs.YteencdgaldhanaaGreatDoor

/-- The years of spans. -/
def covers (xs : List SpanV) (y : Int) : Prop := ∃ x ∈ xs, x.from_ ≤ y ∧ y ≤ x.to_
/-- Valid spans of which no two touch, in order. -/
def Apart2 (xs : List SpanV) : Prop := (∀ x ∈ xs, x.from_ ≤ x.to_) ∧ xs.Pairwise fun a b => a.to_ + 2 ≤ b.from_
theorem covers_nil (y : Int) : ¬ covers [] y := fun ⟨_, h, _⟩ => by cases h
theorem covers_cons {x : SpanV} {xs : List SpanV} {y : Int} : covers (x :: xs) y ↔ (x.from_ ≤ y ∧ y ≤ x.to_) ∨ covers xs y := by
  constructor
  · rintro ⟨z, hz, h⟩
    rcases List.mem_cons.1 hz with e | m
    · exact .inl (e ▸ h)
    · exact .inr ⟨z, m, h⟩
  · rintro (h | ⟨z, hz, h⟩)
    · exact ⟨x, List.mem_cons_self .., h⟩
    · exact ⟨z, List.mem_cons_of_mem _ hz, h⟩
theorem covers_snoc {x : SpanV} {xs : List SpanV} {y : Int} : covers (xs ++ [x]) y ↔ covers xs y ∨ (x.from_ ≤ y ∧ y ≤ x.to_) := by
  constructor
  · rintro ⟨z, hz, h⟩
    rcases List.mem_append.1 hz with m | e
    · exact .inl ⟨z, m, h⟩
    · exact .inr (List.mem_singleton.1 e ▸ h)
  · rintro (⟨z, hz, h⟩ | h)
    · exact ⟨z, List.mem_append_left _ hz, h⟩
    · exact ⟨x, by simp, h⟩
theorem sep_cons {x : SpanV} {xs : List SpanV} (h : Apart2 (x :: xs)) : x.from_ ≤ x.to_ ∧ (∀ z ∈ xs, x.to_ + 2 ≤ z.from_) ∧ Apart2 xs :=
  ⟨h.1 x (List.mem_cons_self ..), (List.pairwise_cons.1 h.2).1, fun z hz => h.1 z (List.mem_cons_of_mem _ hz), (List.pairwise_cons.1 h.2).2⟩
theorem span_ext {x y : SpanV} (h1 : x.from_ = y.from_) (h2 : x.to_ = y.to_) : x = y := by
  cases x; cases y; simp only at h1 h2; rw [h1, h2]
theorem sep_ge {x : SpanV} {xs : List SpanV} (h : Apart2 (x :: xs)) {y : Int} (hc : covers (x :: xs) y) : x.from_ ≤ y := by
  obtain ⟨h1, h2, h3⟩ := sep_cons h
  rcases covers_cons.1 hc with c | ⟨z, hz, c1, c2⟩
  · exact c.1
  · have := h2 z hz; omega
theorem sep_next {x : SpanV} {xs : List SpanV} (h : Apart2 (x :: xs)) {y : Int} (hc : covers (x :: xs) y) (hy : x.to_ < y) : x.to_ + 2 ≤ y ∧ covers xs y := by
  obtain ⟨h1, h2, h3⟩ := sep_cons h
  rcases covers_cons.1 hc with c | ⟨z, hz, c1, c2⟩
  · omega
  · have := h2 z hz; exact ⟨by omega, z, hz, c1, c2⟩
theorem sep_ext : ∀ {xs ys : List SpanV}, Apart2 xs → Apart2 ys → (∀ y, covers xs y ↔ covers ys y) → xs = ys
  | [], [], _, _, _ => rfl
  | [], y :: ys, _, h, e => absurd ((e y.from_).2 (covers_cons.2 (.inl ⟨Int.le_refl _, h.1 y (List.mem_cons_self ..)⟩))) (covers_nil _)
  | x :: xs, [], h, _, e => absurd ((e x.from_).1 (covers_cons.2 (.inl ⟨Int.le_refl _, h.1 x (List.mem_cons_self ..)⟩))) (covers_nil _)
  | x :: xs, y :: ys, h1, h2, e => by
    obtain ⟨a1, a2, a3⟩ := sep_cons h1
    obtain ⟨b1, b2, b3⟩ := sep_cons h2
    have f1 := sep_ge h2 ((e x.from_).1 (covers_cons.2 (.inl ⟨Int.le_refl _, a1⟩)))
    have f2 := sep_ge h1 ((e y.from_).2 (covers_cons.2 (.inl ⟨Int.le_refl _, b1⟩)))
    have f : x.from_ = y.from_ := by omega
    have t1 : x.to_ ≤ y.to_ := by
      apply Classical.byContradiction
      intro hn
      have hc : covers (y :: ys) (y.to_ + 1) := (e _).1 (covers_cons.2 (.inl ⟨by omega, by omega⟩))
      have := (sep_next h2 hc (by omega)).1
      omega
    have t2 : y.to_ ≤ x.to_ := by
      apply Classical.byContradiction
      intro hn
      have hc : covers (x :: xs) (x.to_ + 1) := (e _).2 (covers_cons.2 (.inl ⟨by omega, by omega⟩))
      have := (sep_next h1 hc (by omega)).1
      omega
    obtain rfl : x = y := span_ext f (by omega)
    rw [sep_ext a3 b3 fun z => ?_]
    constructor
    · rintro ⟨u, hu, c1, c2⟩
      have hx := a2 u hu
      exact (sep_next h2 ((e z).1 (covers_cons.2 (.inr ⟨u, hu, c1, c2⟩))) (by omega)).2
    · rintro ⟨u, hu, c1, c2⟩
      have hx := b2 u hu
      exact (sep_next h1 ((e z).2 (covers_cons.2 (.inr ⟨u, hu, c1, c2⟩))) (by omega)).2
/-- One span more, at the end: it goes on from the last one if it touches it. -/
def addS (l : List SpanV) (s : SpanV) : List SpanV := match l.getLast? with
  | none => [s]
  | some z => if s.from_ ≤ z.to_ + 1 then l.dropLast ++ [⟨z.from_, max z.to_ s.to_⟩] else l ++ [s]
theorem addS_nil (s : SpanV) : addS [] s = [s] := rfl
theorem addS_snoc (i : List SpanV) (z s : SpanV) : addS (i ++ [z]) s = if s.from_ ≤ z.to_ + 1 then i ++ [⟨z.from_, max z.to_ s.to_⟩] else i ++ [z] ++ [s] := by
  rw [addS, List.getLast?_append]
  simp
theorem addS_len (l : List SpanV) (s : SpanV) : (addS l s).length ≤ l.length + 1 := by
  rcases List.eq_nil_or_concat l with rfl | ⟨i, z, rfl⟩
  · simp [addS_nil]
  · rw [List.concat_eq_append, addS_snoc]; split <;> simp
theorem addS_law {l : List SpanV} {s : SpanV} (h : Apart2 l) (hf : ∀ z ∈ l, z.from_ ≤ s.from_) (hs : s.from_ ≤ s.to_) :
    Apart2 (addS l s) ∧ (∀ z ∈ addS l s, z.from_ ≤ s.from_) ∧ ∀ y, covers (addS l s) y ↔ covers l y ∨ (s.from_ ≤ y ∧ y ≤ s.to_) := by
  rcases List.eq_nil_or_concat l with rfl | ⟨i, z, rfl⟩
  · rw [addS_nil]
    refine ⟨⟨by simpa using hs, by simp⟩, by simp, fun y => ?_⟩
    rw [covers_cons]
    constructor
    · rintro (c | c)
      · exact .inr c
      · exact absurd c (covers_nil _)
    · rintro (c | c)
      · exact absurd c (covers_nil _)
      · exact .inl c
  · obtain ⟨h1, h2⟩ := h
    rw [List.concat_eq_append] at h1 h2 hf ⊢
    rw [List.pairwise_append] at h2
    have hz := h1 z (by simp)
    have hzf := hf z (by simp)
    rw [addS_snoc]
    by_cases ht : s.from_ ≤ z.to_ + 1
    · rw [if_pos ht]
      refine ⟨⟨fun x hx => ?_, ?_⟩, fun x hx => ?_, fun y => ?_⟩
      · rcases List.mem_append.1 hx with m | e
        · exact h1 x (List.mem_append_left _ m)
        · rw [List.mem_singleton.1 e]; simp only; omega
      · rw [List.pairwise_append]
        refine ⟨h2.1, List.pairwise_singleton _ _, fun a ha b hb => ?_⟩
        rw [List.mem_singleton.1 hb]
        exact h2.2.2 a ha z (by simp)
      · rcases List.mem_append.1 hx with m | e
        · exact hf x (List.mem_append_left _ m)
        · rw [List.mem_singleton.1 e]; exact hzf
      · rw [covers_snoc, covers_snoc]
        simp only
        constructor
        · rintro (c | c)
          · exact .inl (.inl c)
          · by_cases hy : y ≤ z.to_
            · exact .inl (.inr ⟨c.1, hy⟩)
            · exact .inr ⟨by omega, by omega⟩
        · rintro ((c | c) | c)
          · exact .inl c
          · exact .inr ⟨c.1, by omega⟩
          · exact .inr ⟨by omega, by omega⟩
    · rw [if_neg ht]
      refine ⟨⟨fun x hx => ?_, ?_⟩, fun x hx => ?_, fun y => ?_⟩
      · rcases List.mem_append.1 hx with m | e
        · exact h1 x m
        · rw [List.mem_singleton.1 e]; exact hs
      · rw [List.pairwise_append]
        refine ⟨List.pairwise_append.2 h2, List.pairwise_singleton _ _, fun a ha b hb => ?_⟩
        rw [List.mem_singleton.1 hb]
        rcases List.mem_append.1 ha with m | e
        · have := h2.2.2 a m z (by simp)
          omega
        · rw [List.mem_singleton.1 e]; omega
      · rcases List.mem_append.1 hx with m | e
        · exact hf x m
        · rw [List.mem_singleton.1 e]; exact Int.le_refl _
      · rw [covers_snoc]
/-- The union of spans that are in the order of their beginnings. -/
def unionS (zs : List SpanV) : List SpanV := zs.foldl addS []
theorem union_snoc (zs : List SpanV) (s : SpanV) : unionS (zs ++ [s]) = addS (unionS zs) s := by rw [unionS, List.foldl_append]; rfl
theorem union_len (zs : List SpanV) : (unionS zs).length ≤ zs.length := by
  have : ∀ (zs l : List SpanV), (zs.foldl addS l).length ≤ l.length + zs.length := by
    intro zs
    induction zs with
    | nil => simp
    | cons x xs ih =>
      intro l
      rw [List.foldl_cons]
      have := ih (addS l x)
      have := addS_len l x
      rw [List.length_cons]; omega
  have := this zs []
  rw [List.length_nil, Nat.zero_add] at this
  exact this
theorem union_law {zs : List SpanV} (hs : zs.Pairwise fun a b => a.from_ ≤ b.from_) (hv : ∀ z ∈ zs, z.from_ ≤ z.to_) : Apart2 (unionS zs) ∧ ∀ y, covers (unionS zs) y ↔ covers zs y := by
  have key : ∀ (zs l : List SpanV), Apart2 l → (∀ a ∈ l, ∀ b ∈ zs, a.from_ ≤ b.from_) → zs.Pairwise (fun a b => a.from_ ≤ b.from_) → (∀ z ∈ zs, z.from_ ≤ z.to_) →
      Apart2 (zs.foldl addS l) ∧ ∀ y, covers (zs.foldl addS l) y ↔ covers l y ∨ covers zs y := by
    intro zs
    induction zs with
    | nil => exact fun l h _ _ _ => ⟨h, fun y => ⟨.inl, fun c => c.elim id fun c => absurd c (covers_nil _)⟩⟩
    | cons x xs ih =>
      intro l h hf hp hv
      obtain ⟨p1, p2⟩ := List.pairwise_cons.1 hp
      obtain ⟨a1, a2, a3⟩ := addS_law h (fun z hz => hf z hz x (List.mem_cons_self ..)) (hv x (List.mem_cons_self ..))
      rw [List.foldl_cons]
      obtain ⟨b1, b2⟩ := ih (addS l x) a1 (fun a ha b hb => Int.le_trans (a2 a ha) (p1 b hb)) p2 fun z hz => hv z (List.mem_cons_of_mem _ hz)
      refine ⟨b1, fun y => ?_⟩
      rw [b2, a3, covers_cons, or_assoc]
  obtain ⟨k1, k2⟩ := key zs [] ⟨by simp, List.Pairwise.nil⟩ (by simp) hs hv
  exact ⟨k1, fun y => (k2 y).trans ⟨fun c => c.elim (fun c => absurd c (covers_nil _)) id, .inr⟩⟩
/-- Two lists of spans, each in the order of its beginnings, that tell of the same years have the same union. -/
theorem union_same {zs ys : List SpanV} (h1 : zs.Pairwise fun a b => a.from_ ≤ b.from_) (h2 : ys.Pairwise fun a b => a.from_ ≤ b.from_) (v1 : ∀ z ∈ zs, z.from_ ≤ z.to_) (v2 : ∀ z ∈ ys, z.from_ ≤ z.to_)
    (h : ∀ y, covers zs y ↔ covers ys y) : unionS zs = unionS ys := by
  obtain ⟨a1, a2⟩ := union_law h1 v1
  obtain ⟨b1, b2⟩ := union_law h2 v2
  exact sep_ext a1 b1 fun y => (a2 y).trans ((h y).trans (b2 y).symm)
/-- The single years from -3000 on, n of them, that are among those of spans. -/
def hasS2 (xs : List SpanV) (y : Int) : Bool := xs.any fun x => decide (x.from_ ≤ y) && decide (y ≤ x.to_)
theorem hasS2_iff {xs : List SpanV} {y : Int} : hasS2 xs y = true ↔ covers xs y := by
  simp only [hasS2, List.any_eq_true, Bool.and_eq_true, decide_eq_true_eq]; rfl
def yearsL (xs : List SpanV) (n : Nat) : List SpanV := ((List.range n).filter fun (i : Nat) => hasS2 xs ((i : Int) - 3000)).map fun (i : Nat) => (⟨(i : Int) - 3000, (i : Int) - 3000⟩ : SpanV)
theorem years_zero (xs : List SpanV) : yearsL xs 0 = [] := rfl
theorem years_in {xs : List SpanV} {n : Nat} (h : hasS2 xs ((n : Int) - 3000) = true) : yearsL xs (n + 1) = yearsL xs n ++ [⟨(n : Int) - 3000, (n : Int) - 3000⟩] := by
  simp only [yearsL, List.range_succ, List.filter_append, List.map_append]
  simp [h]
theorem years_out {xs : List SpanV} {n : Nat} (h : hasS2 xs ((n : Int) - 3000) = false) : yearsL xs (n + 1) = yearsL xs n := by
  simp only [yearsL, List.range_succ, List.filter_append, List.map_append]
  simp [h]
theorem years_mem {xs : List SpanV} {n : Nat} {z : SpanV} : z ∈ yearsL xs n ↔ ∃ i : Nat, i < n ∧ hasS2 xs ((i : Int) - 3000) = true ∧ z = ⟨(i : Int) - 3000, (i : Int) - 3000⟩ := by
  simp only [yearsL, List.mem_map, List.mem_filter, List.mem_range]
  constructor
  · rintro ⟨i, ⟨h1, h2⟩, rfl⟩; exact ⟨i, h1, h2, rfl⟩
  · rintro ⟨i, h1, h2, rfl⟩; exact ⟨i, ⟨h1, h2⟩, rfl⟩
theorem years_sorted (xs : List SpanV) (n : Nat) : (yearsL xs n).Pairwise fun a b => a.from_ ≤ b.from_ := by
  induction n with
  | zero => exact List.Pairwise.nil
  | succ n ih =>
    cases h : hasS2 xs ((n : Int) - 3000)
    · rw [years_out h]; exact ih
    · rw [years_in h, List.pairwise_append]
      refine ⟨ih, List.pairwise_singleton _ _, fun a ha b hb => ?_⟩
      obtain ⟨i, hi, _, rfl⟩ := years_mem.1 ha
      rw [List.mem_singleton.1 hb]
      simp only; omega
/-- What is built year by year ends before the year at hand. -/
theorem years_last (xs : List SpanV) (n : Nat) : ∀ z ∈ unionS (yearsL xs n), z.from_ ≤ z.to_ ∧ -3000 ≤ z.from_ ∧ z.to_ < (n : Int) - 3000 := by
  obtain ⟨h1, h2⟩ := union_law (years_sorted xs n) (fun z hz => by obtain ⟨i, _, _, rfl⟩ := years_mem.1 hz; exact Int.le_refl _)
  intro z hz
  have hv := h1.1 z hz
  obtain ⟨u, hu, c1, c2⟩ := (h2 z.to_).1 ⟨z, hz, hv, Int.le_refl _⟩
  obtain ⟨u2, hu2, d1, d2⟩ := (h2 z.from_).1 ⟨z, hz, Int.le_refl _, hv⟩
  obtain ⟨i, hi, _, rfl⟩ := years_mem.1 hu
  obtain ⟨i2, hi2, _, rfl⟩ := years_mem.1 hu2
  simp only at c1 c2 d1 d2
  exact ⟨hv, by omega, by omega⟩
/-- The law: the union of spans within the years is what is built year by year. -/
theorem years_union {zs xs : List SpanV} (hs : zs.Pairwise fun a b => a.from_ ≤ b.from_) (hv : ∀ z ∈ zs, z.from_ ≤ z.to_ ∧ -3000 ≤ z.from_ ∧ z.to_ ≤ 3000) (hm : ∀ z, z ∈ zs ↔ z ∈ xs) : unionS zs = unionS (yearsL xs 6001) := by
  refine union_same hs (years_sorted _ _) (fun z hz => (hv z hz).1) (fun z hz => by obtain ⟨i, _, _, rfl⟩ := years_mem.1 hz; exact Int.le_refl _) fun y => ?_
  have hc : covers zs y ↔ covers xs y := ⟨fun ⟨z, hz, h⟩ => ⟨z, (hm z).1 hz, h⟩, fun ⟨z, hz, h⟩ => ⟨z, (hm z).2 hz, h⟩⟩
  rw [hc]
  constructor
  · intro c
    obtain ⟨z, hz, h⟩ := hc.2 c
    have := hv z hz
    refine ⟨⟨y, y⟩, years_mem.2 ⟨(y + 3000).toNat, by omega, ?_, ?_⟩, Int.le_refl _, Int.le_refl _⟩
    · rw [show (((y + 3000).toNat : Nat) : Int) - 3000 = y by omega]; exact hasS2_iff.2 c
    · rw [show (((y + 3000).toNat : Nat) : Int) - 3000 = y by omega]
  · rintro ⟨z, hz, c1, c2⟩
    obtain ⟨i, hi, hh, rfl⟩ := years_mem.1 hz
    simp only at c1 c2
    obtain rfl : y = (i : Int) - 3000 := by omega
    exact hasS2_iff.1 hh

end Go.Proofs.YteencdgaldhanaaGreatDoor
end

section
namespace Go.Proofs.YteencdgaldhanaaGreatDoor
open Go.RowKit

theorem spAt_of {w : World} {a : Option Addr} {n c : Nat} {zs : List SpanV} (h : OwnG laySp 60 w 0 a n c zs) : SpAt w.heap.size w a c zs ∧ n = zs.length := by
  have hl := h.rd.len
  rcases h.1.2 with ⟨e, h0⟩ | ⟨g, cap, cur, e, hb, hg, _⟩
  · cases e
    exact ⟨.inl ⟨rfl, rfl, List.eq_nil_of_length_eq_zero (by omega)⟩, hl.symm⟩
  · cases e
    refine ⟨.inr ⟨g, 0, rfl, (Array.getElem?_eq_some_iff.1 hg).1, fun k x hk => ?_⟩, hl.symm⟩
    obtain ⟨b, o, e, _, hc⟩ := h.rd.at (by rw [← hl]; exact Nat.lt_of_le_of_lt (Nat.zero_le _) (List.getElem?_eq_some_iff.1 hk).1)
    cases e
    exact ⟨by simpa [laySp] using hc k x hk 0 _ rfl, by simpa [laySp, Nat.add_assoc] using hc k x hk 1 _ rfl⟩

set_option maxRecDepth 100000 in
theorem collectSp_any (Bs : Nat) (a : Option Addr) (c : Nat) (zs : List SpanV) (hlen : zs.length ≤ 4294967296) (w : World) (hBs : Bs < w.heap.size)
    (hc : w.cell? ⟨Bs, 0, none⟩ = some (.slice a zs.length c)) (hI : SpAt w.heap.size w a c zs) :
    Calls Tryz.prog 111 #[.func (.func 113) #[] #[.pointer (some ⟨Bs, 0, none⟩)]] w fun e w' => ∃ v, e = .returned v ∧ NewG laySp 60 w w' zs v := by
  go_enter Tryz.func111, Tryz.ntmps111
  go_wp2_with fail
  refine (callsIn_wide.1 (spAppend_in Fence.wide 3 trivial trivial rfl (by decide) Bs a c zs hlen w hBs hc hI)).mono ?_
  rintro e w1 ⟨v, rfl, hrow, hB⟩
  obtain ⟨a1, c1, rfl⟩ := own_slice hrow
  have HR := Lib.hid (And.intro hrow hB)
  clear hrow hB
  go_wp2
  go_ret
  exact ⟨_, rfl, a1, _, c1, rfl, ⟨HR.out.1, hlen⟩, HR.out.2⟩

set_option maxRecDepth 100000 in
theorem sortedSp_any (Bs : Nat) (a : Option Addr) (c : Nat) (zs : List SpanV) (hlen : zs.length ≤ 12) (w : World) (hBs : Bs < w.heap.size)
    (hc : w.cell? ⟨Bs, 0, none⟩ = some (.slice a zs.length c)) (hI : SpAt w.heap.size w a c zs) :
    Calls Tryz.prog 83 #[.func (.func 113) #[] #[.pointer (some ⟨Bs, 0, none⟩)], .func (.func 85) #[] #[]] w fun e w' => ∃ v, e = .returned v ∧ ∃ ys, ys.Perm zs ∧ upS ys ∧ NewG laySp 60 w w' ys v := by
  go_enter Tryz.func83, Tryz.ntmps83
  go_wp2_with fail
  refine (collectSp_any Bs a c zs (by omega) w hBs hc hI).mono ?_
  rintro e w1 ⟨v, rfl, a1, n1, c1, rfl, ho, hx⟩
  have hl := ho.rd.len
  subst hl
  rcases own_addr ho.1 with rfl | ⟨g, rfl⟩
  · have hz : zs = [] := ho.rd.isNone.2
    subst hz
    have hc0 : c1 = 0 := by
      rcases ho.1.2 with ⟨e, _⟩ | ⟨g, cap, cur, e, _⟩
      · cases e; rfl
      · cases e
    subst hc0
    have HO := Lib.hid (And.intro ho hx)
    clear ho hx
    simp only [List.length_nil]
    go_wp2_with fail
    refine (sortFuncNil_any _).mono ?_
    rintro e w2 ⟨rfl, rfl⟩
    go_wp2
    go_ret
    exact ⟨_, rfl, [], List.Perm.refl _, List.Pairwise.nil, none, 0, 0, rfl, HO.out.1, HO.out.2⟩
  · have HO := Lib.hid (And.intro ho hx)
    clear ho hx
    go_wp2_with fail
    refine (sortFuncSp_any _ _ _ _ _ HO.out.1 hlen).mono ?_
    rintro e w2 ⟨rfl, ys, hp, hu, ho2, hg2⟩
    have hx2 : Ext w w2 := HO.out.2.grown hg2 (by rintro k e; cases e; exact (HO.out.1.1.lt g rfl).1)
    have HS := Lib.hid (And.intro hp (And.intro hu (And.intro ho2 hx2)))
    clear hp hu ho2 hg2 hx2
    go_wp2
    go_ret
    exact ⟨_, rfl, ys, HS.out.1, HS.out.2.1, _, _, _, rfl, by simpa using HS.out.2.2.1, HS.out.2.2.2⟩

end Go.Proofs.YteencdgaldhanaaGreatDoor
end
