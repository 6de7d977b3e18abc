/-
  The insertion sort of the library at spans.
-/
import Derived.Test.YteencdgaldhanaaGreatDoorIT1
namespace Go.Proofs.YteencdgaldhanaaGreatDoor
open Go.RowKit

theorem grown_x {w w1 w2 : World} {r : Option Nat} (h : w.grownBy w1 r) (x : Ext w1 w2) : w.grownBy w2 r := grown_trans' h ⟨x.os, x.tape, x.output, x.size, fun j hj _ => x.block j hj⟩
def upS (zs : List SpanV) : Prop := zs.Pairwise fun a b => a.from_ ≤ b.from_
/-- The inner loop's state: x at place j, what is ahead of it and what is behind it up to i in order, x below all behind it. -/
def InsAt (zs cur : List SpanV) (i j : Nat) (pre mid rest : List SpanV) (x : SpanV) : Prop :=
  cur = pre ++ x :: (mid ++ rest) ∧ pre.length = j ∧ pre.length + mid.length = i ∧ upS (pre ++ mid) ∧ (∀ m ∈ mid, x.from_ ≤ m.from_) ∧ cur.Perm zs
theorem InsAt.swap {zs cur : List SpanV} {i j : Nat} {pre mid rest : List SpanV} {x p : SpanV} (h : InsAt zs cur i (j + 1) (pre ++ [p]) mid rest x) (hlt : x.from_ < p.from_) :
    InsAt zs (pre ++ x :: p :: (mid ++ rest)) i j pre (p :: mid) rest x := by
  obtain ⟨h1, h2, h3, h4, h5, h6⟩ := h
  refine ⟨rfl, by simp at h2; omega, by simp at h3 ⊢; omega, by simpa using h4, fun m hm => ?_, ?_⟩
  · rcases List.mem_cons.1 hm with rfl | hm
    · omega
    · exact h5 m hm
  · refine List.Perm.trans ?_ h6
    rw [h1, List.append_assoc]
    exact List.Perm.append_left pre (List.Perm.swap _ _ _)
theorem InsAt.stop {zs cur : List SpanV} {i j : Nat} {pre mid rest : List SpanV} {x : SpanV} (h : InsAt zs cur i j pre mid rest x) (hp : ∀ y ∈ pre, y.from_ ≤ x.from_) : upS (cur.take (i + 1)) := by
  obtain ⟨rfl, h2, h3, h4, h5, h6⟩ := h
  have e : (pre ++ x :: (mid ++ rest)).take (i + 1) = pre ++ x :: mid := by
    rw [show pre ++ x :: (mid ++ rest) = (pre ++ x :: mid) ++ rest by simp, List.take_append_of_le_length (by simp; omega), List.take_of_length_le (by simp; omega)]
  rw [e, upS, List.pairwise_append]
  rw [upS, List.pairwise_append] at h4
  refine ⟨h4.1, List.pairwise_cons.2 ⟨h5, h4.2.1⟩, fun a ha b hb => ?_⟩
  rcases List.mem_cons.1 hb with rfl | hb
  · exact hp a ha
  · exact h4.2.2 a ha b hb
theorem InsAt.pre_le {zs cur : List SpanV} {i j : Nat} {pre mid rest : List SpanV} {x p : SpanV} (h : InsAt zs cur i j (pre ++ [p]) mid rest x) (hge : p.from_ ≤ x.from_) : ∀ y ∈ pre ++ [p], y.from_ ≤ x.from_ := by
  have h4 := h.2.2.2.1
  rw [upS, List.pairwise_append] at h4
  have h7 := h4.1
  rw [List.pairwise_append] at h7
  intro y hy
  rcases List.mem_append.1 hy with hy | hy
  · have := h7.2.2 y hy p (by simp)
    omega
  · rw [List.mem_singleton.1 hy]; exact hge
theorem InsAt.start {zs cur : List SpanV} {i : Nat} (hi : i < cur.length) (h : upS (cur.take i)) (hp : cur.Perm zs) : InsAt zs cur i i (cur.take i) [] (cur.drop (i + 1)) cur[i] :=
  ⟨by rw [List.nil_append, ← List.drop_eq_getElem_cons hi, List.take_append_drop], by simp; omega, by simp; omega, by simpa using h, by simp, hp⟩

theorem swap_list (pre r : List SpanV) (x p : SpanV) (k : Nat) (hk : pre.length = k) :
    ((((pre ++ p :: x :: r).set (k + 1) ⟨p.from_, x.to_⟩).set (k + 1) p).set k ⟨x.from_, p.to_⟩).set k x = pre ++ x :: p :: r := by
  subst hk
  rw [List.set_append_right _ _ (by omega), List.set_append_right _ _ (by omega), List.set_append_right _ _ (by omega), List.set_append_right _ _ (by omega)]
  simp [Nat.add_sub_cancel_left]
theorem own_swap {w : World} {B g n c k : Nat} {pre r : List SpanV} {x p : SpanV} (h : OwnG laySp 60 w B (some ⟨g, 0, none⟩) n c (pre ++ p :: x :: r)) (hk : pre.length = k) :
    OwnG laySp 60 ((((w.setCell ⟨g, (k + 1) * 2, none⟩ (.int .i64 p.from_)).setCell ⟨g, (k + 1) * 2 + 1, none⟩ (.int .i64 p.to_)).setCell ⟨g, k * 2, none⟩ (.int .i64 x.from_)).setCell ⟨g, k * 2 + 1, none⟩ (.int .i64 x.to_)) B (some ⟨g, 0, none⟩) n c (pre ++ x :: p :: r) ∧
      w.grownBy ((((w.setCell ⟨g, (k + 1) * 2, none⟩ (.int .i64 p.from_)).setCell ⟨g, (k + 1) * 2 + 1, none⟩ (.int .i64 p.to_)).setCell ⟨g, k * 2, none⟩ (.int .i64 x.from_)).setCell ⟨g, k * 2 + 1, none⟩ (.int .i64 x.to_)) (some g) := by
  have hl : (pre ++ p :: x :: r)[k + 1]? = some x := by subst hk; simp
  have hl2 : (pre ++ p :: x :: r)[k]? = some p := by subst hk; simp
  have hlt : k + 1 < (pre ++ p :: x :: r).length := (List.getElem?_eq_some_iff.1 hl).1
  have s1 := h.setAt (k := k + 1) (j := 0) (x' := ⟨p.from_, x.to_⟩) (u := .int .i64 p.from_) hl (by decide) rfl
  have s2 := s1.1.setAt (k := k + 1) (j := 1) (x := ⟨p.from_, x.to_⟩) (x' := p) (u := .int .i64 p.to_) (by rw [List.getElem?_set_self hlt]) (by decide) rfl
  have s3 := s2.1.setAt (k := k) (j := 0) (x := p) (x' := ⟨x.from_, p.to_⟩) (u := .int .i64 x.from_) (by rw [List.getElem?_set_ne (by omega), List.getElem?_set_ne (by omega), hl2]) (by decide) rfl
  have s4 := s3.1.setAt (k := k) (j := 1) (x := ⟨x.from_, p.to_⟩) (x' := x) (u := .int .i64 x.to_) (by rw [List.getElem?_set_self (by simp only [List.length_set]; omega)]) (by decide) rfl
  rw [swap_list pre r x p k hk] at s4
  exact ⟨s4.1, grown_trans' (grown_trans' (grown_trans' s1.2 s2.2) s3.2) s4.2⟩
theorem at_list (pre r : List SpanV) (x p : SpanV) (k : Nat) (hk : pre.length = k) : (pre ++ p :: x :: r)[k]? = some p ∧ (pre ++ p :: x :: r)[k + 1]? = some x := by
  subst hk
  constructor <;> simp

set_option maxRecDepth 100000 in
set_option maxHeartbeats 2000000 in
theorem insSortSp_any (B g c : Nat) (zs : List SpanV) (w : World) (ho : OwnG laySp 60 w B (some ⟨g, 0, none⟩) zs.length c zs) :
    Calls Tryz.prog 153 #[.slice (some ⟨g, 0, none⟩) zs.length c, .int .i64 0, .int .i64 zs.length, .func (.func 85) #[] #[]] w fun e w' =>
      e = .returned (.tuple #[]) ∧ ∃ ys, ys.Perm zs ∧ upS ys ∧ OwnG laySp 60 w' B (some ⟨g, 0, none⟩) zs.length c ys ∧ w.grownBy w' (some g) := by
  have hm := ho.2
  go_enter Tryz.func153, Tryz.ntmps153
  go_wp2
  go_loopw [8] (fun v wr => ∃ (i : Nat) (cur : List SpanV), 1 ≤ i ∧ (i ≤ zs.length ∨ i = 1) ∧ v = .int .i64 i ∧ cur.Perm zs ∧ upS (cur.take i) ∧ OwnG laySp 60 wr B (some ⟨g, 0, none⟩) zs.length c cur ∧ w.grownBy wr (some g)) (fun v _ => zs.length - (intOf v).toNat)
  case atStart => exact ⟨1, zs, by decide, .inr rfl, rfl, List.Perm.refl _, by cases zs <;> simp [upS], ho, World.grownBy.refl _ _⟩
  case round =>
    obtain ⟨i, cur, hi1, hi2, rfl, hp, hu, hw, hg⟩ := hrel
    have hcl := hp.length_eq
    by_cases hlt : i < zs.length
    · have hii : (i : Int) < zs.length := by omega
      have HW := Lib.hid (And.intro hw hg)
      have HS := Lib.hid (InsAt.start (by omega) hu hp)
      clear hw hg hu hp
      go_wp2
      go_loopw [9] (fun v wr => ∃ (j : Nat) (cur pre mid rest : List SpanV) (x : SpanV), v = .int .i64 j ∧ InsAt zs cur i j pre mid rest x ∧ OwnG laySp 60 wr B (some ⟨g, 0, none⟩) zs.length c cur ∧ w.grownBy wr (some g)) (fun v _ => (intOf v).toNat)
      case atStart => exact ⟨i, _, _, _, _, _, rfl, HS.out, HW.out.1, HW.out.2⟩
      case round =>
        obtain ⟨j, cur, pre, mid, rest, x, rfl, hI, hw, hg⟩ := hrel
        have HI := Lib.hid hI
        rcases j with _ | k
        · have HG := Lib.hid (And.intro hw hg)
          clear hw hg hI
          go_wp2
          refine wp_region_held_drew (S := Ext _) (by kernel_rfl) (Ext.refl _).drew (fun hHeld => ?_)
          generalize hwd : World.drew _ = wd at hHeld ⊢
          clear hwd
          refine takeYesH 0 18 ?v1 rfl rfl (by kernel_rfl) (by kernel_rfl) (by kernel_rfl) (fun _ _ _ _ h => h) (by kernel_rfl) hHeld ?y1 ?r1
          case y1 => intro wq hq; go_simp; first | done | with_reducible rfl
          simp only [Act.put, List.setIfInBounds_toArray, List.set_cons_zero, List.set_cons_succ]
          refine takeYesH 1 19 ?v2 rfl rfl (by kernel_rfl) (by kernel_rfl) (by kernel_rfl) (fun _ _ _ _ h => h) (by kernel_rfl) hHeld ?y2 ?r2
          case y2 => intro wq hq; go_simp; first | done | with_reducible rfl
          simp only [Act.put, List.setIfInBounds_toArray, List.set_cons_zero, List.set_cons_succ]
          refine takeYesH 2 20 ?v3 rfl rfl (by kernel_rfl) (by kernel_rfl) (by kernel_rfl) (fun _ _ _ _ h => h) (by kernel_rfl) hHeld ?y3 ?r3
          case y3 => intro wq hq; go_simp; first | done | with_reducible rfl
          simp only [Act.put, List.setIfInBounds_toArray, List.set_cons_zero, List.set_cons_succ]
          refine takeYesH 3 21 ?v4 rfl rfl (by kernel_rfl) (by kernel_rfl) (by kernel_rfl) (fun _ _ _ _ h => h) (by kernel_rfl) hHeld ?y4 ?r4
          case y4 => intro wq hq; go_simp; first | done | with_reducible rfl
          simp only [Act.put, List.setIfInBounds_toArray, List.set_cons_zero, List.set_cons_succ]
          refine takeNoH 4 22 rfl rfl (by kernel_rfl) (by kernel_rfl) (by kernel_rfl) (fun _ _ _ _ h => h) (by kernel_rfl) hHeld ?_
          simp only [Act.put, List.setIfInBounds_toArray, List.set_cons_zero, List.set_cons_succ]
          refine takeNoH 5 23 rfl rfl (by kernel_rfl) (by kernel_rfl) (by kernel_rfl) (fun _ _ _ _ h => h) (by kernel_rfl) hHeld ?_
          simp only [Act.put, List.setIfInBounds_toArray, List.set_cons_zero, List.set_cons_succ]
          refine takeNoH 6 24 rfl rfl (by kernel_rfl) (by kernel_rfl) (by kernel_rfl) (fun _ _ _ _ h => h) (by kernel_rfl) hHeld ?_
          simp only [Act.put, List.setIfInBounds_toArray, List.set_cons_zero, List.set_cons_succ]
          refine takeNoH 7 25 rfl rfl (by kernel_rfl) (by kernel_rfl) (by kernel_rfl) (fun _ _ _ _ h => h) (by kernel_rfl) hHeld ?_
          simp only [Act.put, List.setIfInBounds_toArray, List.set_cons_zero, List.set_cons_succ]
          refine takeNoH 8 26 rfl rfl (by kernel_rfl) (by kernel_rfl) (by kernel_rfl) (fun _ _ _ _ h => h) (by kernel_rfl) hHeld ?_
          simp only [Act.put, List.setIfInBounds_toArray, List.set_cons_zero, List.set_cons_succ]
          refine takeNoH 9 27 rfl rfl (by kernel_rfl) (by kernel_rfl) (by kernel_rfl) (fun _ _ _ _ h => h) (by kernel_rfl) hHeld ?_
          simp only [Act.put, List.setIfInBounds_toArray, List.set_cons_zero, List.set_cons_succ]
          refine takeNoH 10 28 rfl rfl (by kernel_rfl) (by kernel_rfl) (by kernel_rfl) (fun _ _ _ _ h => h) (by kernel_rfl) hHeld ?_
          simp only [Act.put, List.setIfInBounds_toArray, List.set_cons_zero, List.set_cons_succ]
          refine takeNoH 11 29 rfl rfl (by kernel_rfl) (by kernel_rfl) (by kernel_rfl) (fun _ _ _ _ h => h) (by kernel_rfl) hHeld ?_
          simp only [Act.put, List.setIfInBounds_toArray, List.set_cons_zero, List.set_cons_succ]
          refine takeNoH 12 30 rfl rfl (by kernel_rfl) (by kernel_rfl) (by kernel_rfl) (fun _ _ _ _ h => h) (by kernel_rfl) hHeld ?_
          simp only [Act.put, List.setIfInBounds_toArray, List.set_cons_zero, List.set_cons_succ]
          refine takeNoH 13 31 rfl rfl (by kernel_rfl) (by kernel_rfl) (by kernel_rfl) (fun _ _ _ _ h => h) (by kernel_rfl) hHeld ?_
          simp only [Act.put, List.setIfInBounds_toArray, List.set_cons_zero, List.set_cons_succ]
          refine takeNoH 14 32 rfl rfl (by kernel_rfl) (by kernel_rfl) (by kernel_rfl) (fun _ _ _ _ h => h) (by kernel_rfl) hHeld ?_
          simp only [Act.put, List.setIfInBounds_toArray, List.set_cons_zero, List.set_cons_succ]
          refine takeNoH 15 33 rfl rfl (by kernel_rfl) (by kernel_rfl) (by kernel_rfl) (fun _ _ _ _ h => h) (by kernel_rfl) hHeld ?_
          simp only [Act.put, List.setIfInBounds_toArray, List.set_cons_zero, List.set_cons_succ]
          refine takeYesH 16 34 ?v5 rfl rfl (by kernel_rfl) (by kernel_rfl) (by kernel_rfl) (fun _ _ _ _ h => h) (by kernel_rfl) hHeld ?y5 ?r5
          case y5 => intro wq hq; go_simp; first | done | with_reducible rfl
          simp only [Act.put, List.setIfInBounds_toArray, List.set_cons_zero, List.set_cons_succ]
          refine wpAnyH_done (by kernel_rfl) ?_ _
          go_wp2
          refine ⟨⟨i + 1, cur, by omega, .inl (by omega), by go_num, HI.out.2.2.2.2.2, HI.out.stop (fun y hy => by have := HI.out.2.1; rw [List.length_eq_zero_iff.1 this] at hy; cases hy), HG.out.1.ext hHeld, grown_x HG.out.2 hHeld⟩, ?_⟩
          simp only [intOf]
          omega
        · obtain ⟨h1, h2, _⟩ := hI
          obtain ⟨pre, p, rfl⟩ : ∃ q p, pre = q ++ [p] := by
            rcases List.eq_nil_or_concat pre with e | ⟨q, p, e⟩
            · rw [e] at h2; simp at h2
            · exact ⟨q, p, by rw [e, List.concat_eq_append]⟩
          have hpk : pre.length = k := by simp at h2; omega
          obtain ⟨x0, x1⟩ := x
          obtain ⟨p0, p1⟩ := p
          have hcur : cur = pre ++ ⟨p0, p1⟩ :: ⟨x0, x1⟩ :: (mid ++ rest) := by rw [h1]; simp
          obtain ⟨a1, a2⟩ := at_list pre (mid ++ rest) ⟨x0, x1⟩ ⟨p0, p1⟩ k hpk
          rw [← hcur] at a1 a2
          have hgl : g < wr.heap.size := (hw.1.lt g rfl).2
          obtain ⟨b, o, e, hb, hc⟩ := hw.rd.at (by omega)
          cases e
          have c1 : wr.cell? ⟨g, (k + 1) * 2, none⟩ = some (.int .i64 x0) := by simpa [laySp] using hc (k + 1) _ a2 0 _ rfl
          have c2 : wr.cell? ⟨g, (k + 1) * 2 + 1, none⟩ = some (.int .i64 x1) := by simpa [laySp] using hc (k + 1) _ a2 1 _ rfl
          have c3 : wr.cell? ⟨g, k * 2, none⟩ = some (.int .i64 p0) := by simpa [laySp] using hc k _ a1 0 _ rfl
          have c4 : wr.cell? ⟨g, k * 2 + 1, none⟩ = some (.int .i64 p1) := by simpa [laySp] using hc k _ a1 1 _ rfl
          have hkl : k + 1 < zs.length := by
            have := (List.getElem?_eq_some_iff.1 a2).1
            have := hw.rd.len
            omega
          have HG := Lib.hid (And.intro hw hg)
          clear hw hg hc a1 a2 h1 h2
          have hki : (k : Int) + 1 < zs.length := by omega
          have hk0 : (0 : Int) < (k : Int) + 1 := by omega
          have hk1 : (0 : Int) ≤ (k : Int) + 1 := by omega
          have hkw : IntKind.i64.wrap ((k : Int) + 1 - 1) = k := (IntWalk.i64_in _ (by omega)).trans (by omega)
          have hkt : ((k : Int) + 1).toNat = k + 1 := by omega
          have hkn : k < zs.length := by omega
          have hkv : IntKind.i64.wrap (k : Int) = k := IntWalk.i64_in _ (by omega)
          go_wp2
          refine wp_region_held_drew (S := Ext _) (by kernel_rfl) (Ext.refl _).drew (fun hHeld => ?_)
          generalize hwd : World.drew _ = wd at hHeld ⊢
          clear hwd
          refine takeYesH 0 18 ?v6 rfl rfl (by kernel_rfl) (by kernel_rfl) (by kernel_rfl) (fun _ _ _ _ h => h) (by kernel_rfl) hHeld ?y6 ?r6
          case y6 => intro wq hq; go_simp; first | done | with_reducible rfl
          simp only [Act.put, List.setIfInBounds_toArray, List.set_cons_zero, List.set_cons_succ]
          refine takeYesH 1 19 ?v7 rfl rfl (by kernel_rfl) (by kernel_rfl) (by kernel_rfl) (fun _ _ _ _ h => h) (by kernel_rfl) hHeld ?y7 ?r7
          case y7 => intro wq hq; go_simp; first | done | with_reducible rfl
          simp only [Act.put, List.setIfInBounds_toArray, List.set_cons_zero, List.set_cons_succ]
          refine takeYesH 2 20 ?v8 rfl rfl (by kernel_rfl) (by kernel_rfl) (by kernel_rfl) (fun _ _ _ _ h => h) (by kernel_rfl) hHeld ?y8 ?r8
          case y8 => intro wq hq; go_simp; first | done | with_reducible rfl
          simp only [Act.put, List.setIfInBounds_toArray, List.set_cons_zero, List.set_cons_succ]
          refine takeYesH 3 21 ?v9 rfl rfl (by kernel_rfl) (by kernel_rfl) (by kernel_rfl) (fun _ _ _ _ h => h) (by kernel_rfl) hHeld ?y9 ?r9
          case y9 => intro wq hq; go_simp; first | done | with_reducible rfl
          simp only [Act.put, List.setIfInBounds_toArray, List.set_cons_zero, List.set_cons_succ]
          refine takeYesH 4 22 ?v10 rfl rfl (by kernel_rfl) (by kernel_rfl) (by kernel_rfl) (fun _ _ _ _ h => h) (by kernel_rfl) hHeld ?y10 ?r10
          case y10 => intro wq hq; go_simp; first | done | with_reducible rfl
          simp only [Act.put, List.setIfInBounds_toArray, List.set_cons_zero, List.set_cons_succ]
          refine takeYesH 5 23 ?v11 rfl rfl (by kernel_rfl) (by kernel_rfl) (by kernel_rfl) (fun _ _ _ _ h => h) (by kernel_rfl) hHeld ?y11 ?r11
          case y11 => intro wq hq; go_simp; first | done | with_reducible rfl
          simp only [Act.put, List.setIfInBounds_toArray, List.set_cons_zero, List.set_cons_succ]
          refine takeYesH 6 24 ?v12 rfl rfl (by kernel_rfl) (by kernel_rfl) (by kernel_rfl) (fun _ _ _ _ h => h) (by kernel_rfl) hHeld ?y12 ?r12
          case y12 => intro wq hq; go_simp; first | done | with_reducible rfl
          simp only [Act.put, List.setIfInBounds_toArray, List.set_cons_zero, List.set_cons_succ]
          refine takeYesH 7 25 ?v13 rfl rfl (by kernel_rfl) (by kernel_rfl) (by kernel_rfl) (fun _ _ _ _ h => h) (by kernel_rfl) hHeld ?y13 ?r13
          case y13 => intro wq hq; go_simp; first | done | with_reducible rfl
          simp only [Act.put, List.setIfInBounds_toArray, List.set_cons_zero, List.set_cons_succ]
          refine takeYesH 8 26 ?v14 rfl rfl (by kernel_rfl) (by kernel_rfl) (by kernel_rfl) (fun _ _ _ _ h => h) (by kernel_rfl) hHeld ?y14 ?r14
          case y14 =>
            intro wq hq
            have z1 := (Below.cell hq (p := ⟨g, (k + 1) * 2, none⟩) hgl).trans c1
            have z2 := (Below.cell hq (p := ⟨g, (k + 1) * 2 + 1, none⟩) hgl).trans c2
            have z3 := (Below.cell hq (p := ⟨g, k * 2, none⟩) hgl).trans c3
            have z4 := (Below.cell hq (p := ⟨g, k * 2 + 1, none⟩) hgl).trans c4
            go_simp
            first | done | with_reducible rfl
          simp only [Act.put, List.setIfInBounds_toArray, List.set_cons_zero, List.set_cons_succ]
          refine takeYesH 9 27 ?v15 rfl rfl (by kernel_rfl) (by kernel_rfl) (by kernel_rfl) (fun _ _ _ _ h => h) (by kernel_rfl) hHeld ?y15 ?r15
          case y15 => intro wq hq; go_simp; first | done | with_reducible rfl
          simp only [Act.put, List.setIfInBounds_toArray, List.set_cons_zero, List.set_cons_succ]
          refine takeYesH 10 28 ?v16 rfl rfl (by kernel_rfl) (by kernel_rfl) (by kernel_rfl) (fun _ _ _ _ h => h) (by kernel_rfl) hHeld ?y16 ?r16
          case y16 => intro wq hq; go_simp; first | done | with_reducible rfl
          simp only [Act.put, List.setIfInBounds_toArray, List.set_cons_zero, List.set_cons_succ]
          refine takeYesH 11 29 ?v17 rfl rfl (by kernel_rfl) (by kernel_rfl) (by kernel_rfl) (fun _ _ _ _ h => h) (by kernel_rfl) hHeld ?y17 ?r17
          case y17 => intro wq hq; go_simp; first | done | with_reducible rfl
          simp only [Act.put, List.setIfInBounds_toArray, List.set_cons_zero, List.set_cons_succ]
          refine takeYesH 12 30 ?v18 rfl rfl (by kernel_rfl) (by kernel_rfl) (by kernel_rfl) (fun _ _ _ _ h => h) (by kernel_rfl) hHeld ?y18 ?r18
          case y18 => intro wq hq; go_simp; first | done | with_reducible rfl
          simp only [Act.put, List.setIfInBounds_toArray, List.set_cons_zero, List.set_cons_succ]
          refine takeYesH 13 31 ?v19 rfl rfl (by kernel_rfl) (by kernel_rfl) (by kernel_rfl) (fun _ _ _ _ h => h) (by kernel_rfl) hHeld ?y19 ?r19
          case y19 =>
            intro wq hq
            have z1 := (Below.cell hq (p := ⟨g, (k + 1) * 2, none⟩) hgl).trans c1
            have z2 := (Below.cell hq (p := ⟨g, (k + 1) * 2 + 1, none⟩) hgl).trans c2
            have z3 := (Below.cell hq (p := ⟨g, k * 2, none⟩) hgl).trans c3
            have z4 := (Below.cell hq (p := ⟨g, k * 2 + 1, none⟩) hgl).trans c4
            go_simp
            first | done | with_reducible rfl
          simp only [Act.put, List.setIfInBounds_toArray, List.set_cons_zero, List.set_cons_succ]
          refine wpAnyH_ready (rs := [14]) (by kernel_rfl) (by simp) ?_
          refine AllReadyH.cons rfl (fun K hK => ?_) AllReadyH.nil
          go_simp
          refine (byFrom_any ⟨x0, x1⟩ ⟨p0, p1⟩ _).mono ?_
          rintro e w4 ⟨rfl, x4⟩
          go_wp2_with fail
          refine hK.out _ _ (hHeld.trans x4) (fun hHeld => ?_)
          clear hK K
          try simp only [Act.put, List.setIfInBounds_toArray, List.set_cons_zero, List.set_cons_succ]
          refine takeYesH 15 33 ?v20 rfl rfl (by kernel_rfl) (by kernel_rfl) (by kernel_rfl) (fun _ _ _ _ h => h) (by kernel_rfl) hHeld ?y20 ?r20
          case y20 => intro wq hq; go_simp; first | done | with_reducible rfl
          simp only [Act.put, List.setIfInBounds_toArray, List.set_cons_zero, List.set_cons_succ]
          refine takeYesH 16 34 ?v21 rfl rfl (by kernel_rfl) (by kernel_rfl) (by kernel_rfl) (fun _ _ _ _ h => h) (by kernel_rfl) hHeld ?y21 ?r21
          case y21 => intro wq hq; go_simp; first | done | with_reducible rfl
          simp only [Act.put, List.setIfInBounds_toArray, List.set_cons_zero, List.set_cons_succ]
          refine wpAnyH_done (by kernel_rfl) ?_ _
          by_cases hcmp : cmpI x0 p0 < 0
          · have hlt2 : x0 < p0 := by rw [cmpI] at hcmp; split at hcmp; assumption; split at hcmp <;> omega
            have hx : OwnG laySp 60 w4 B (some ⟨g, 0, none⟩) zs.length c cur ∧ w.grownBy w4 (some g) := ⟨HG.out.1.ext hHeld, grown_x HG.out.2 hHeld⟩
            have HX := Lib.hid hx
            have hglx : g < w4.heap.size := (hx.1.1.lt g rfl).2
            have z1 := (Below.cell hHeld (p := ⟨g, (k + 1) * 2, none⟩) hgl).trans c1
            have z2 := (Below.cell hHeld (p := ⟨g, (k + 1) * 2 + 1, none⟩) hgl).trans c2
            have z3 := (Below.cell hHeld (p := ⟨g, k * 2, none⟩) hgl).trans c3
            have z4 := (Below.cell hHeld (p := ⟨g, k * 2 + 1, none⟩) hgl).trans c4
            have f1 := hx.1.1.frozenAt ((k + 1) * 2)
            have f2 := hx.1.1.frozenAt ((k + 1) * 2 + 1)
            have f3 := hx.1.1.frozenAt (k * 2)
            have f4 := hx.1.1.frozenAt (k * 2 + 1)
            clear hx c1 c2 c3 c4 hHeld
            go_wp2
            go_region
            all_goals
              go_wp2
              go_roundw
              case rel => rw [hcur] at HX; exact ⟨k, _, pre, _, rest, ⟨x0, x1⟩, rfl, HI.out.swap hlt2, (own_swap HX.out.1 hpk).1.ext (Ext.refl _).drew, grown_x (grown_trans' HX.out.2 (own_swap HX.out.1 hpk).2) (Ext.refl _).drew⟩
              case measure => simp only [intOf]; omega
          · have hge : p0 ≤ x0 := by rw [cmpI] at hcmp; split at hcmp <;> omega
            go_wp2
            refine ⟨⟨i + 1, cur, by omega, .inl (by omega), by go_num, HI.out.2.2.2.2.2, HI.out.stop (HI.out.pre_le hge), HG.out.1.ext hHeld, grown_x HG.out.2 hHeld⟩, ?_⟩
            simp only [intOf]
            omega
    · have HW := Lib.hid (And.intro hw hg)
      clear hw hg
      go_wp2
      go_end0
      refine ⟨rfl, cur, hp, ?_, HW.out.1, HW.out.2⟩
      rw [List.take_of_length_le (by omega)] at hu
      exact hu

end Go.Proofs.YteencdgaldhanaaGreatDoor
