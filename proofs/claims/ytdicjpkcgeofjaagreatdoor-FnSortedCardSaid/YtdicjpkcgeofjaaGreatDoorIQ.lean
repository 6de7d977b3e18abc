/-
  The library's stable sort of phrases under a sorter's comparison, at most twenty; its test of order.
-/
import Derived.Test.YtdicjpkcgeofjaaGreatDoorSK
import Derived.Test.YtdicjpkcgeofjaaGreatDoorM0
namespace Go.Proofs.YtdicjpkcgeofjaaGreatDoor
open Go.RowKit

/-- What a sorter's comparison wants: an alphabet and the ignored letters where they lie. -/
def CmpOk (w : World) (a1 : Option Addr) (n1 : Nat) (a2 : Option Addr) (m : Nat) (ss : List ByteArray) (ig : List Int) : Prop := RdS w a1 n1 ss ∧ RdI w a2 m ig ∧ lettersOk ss ∧ MaxW w
theorem CmpOk.ext {w w' : World} {a1 a2 : Option Addr} {n1 m : Nat} {ss : List ByteArray} {ig : List Int} (h : CmpOk w a1 n1 a2 m ss ig) (x : Ext w w') : CmpOk w' a1 n1 a2 m ss ig := ⟨h.1.ext x, h.2.1.ext x, h.2.2.1, h.2.2.2.ext x⟩
/-- A phrase that can be written. -/
def okT (ss : List ByteArray) (s : ByteArray) : Prop := s.size ≤ 1073741824 ∧ phraseB s = true ∧ canB ss s = true
theorem compareT_any {a1 : Option Addr} {n1 c1 : Nat} {a2 : Option Addr} {m c2 : Nat} {s t : ByteArray} {ss : List ByteArray} {ig : List Int} {w : World} (h : CmpOk w a1 n1 a2 m ss ig) (hs : okT ss s) (ht : okT ss t) :
    Calls Tryz.prog 25 #[.agg #[.slice a1 n1 c1, .slice a2 m c2], .string s, .string t] w fun e w' => e = .returned (.int .i64 (compC ss ig s t)) ∧ Ext w w' :=
  compare_any _ _ _ _ _ _ _ _ _ _ _ h.1 h.2.1 hs.1 ht.1 h.2.2.1 hs.2.1 ht.2.1 hs.2.2 ht.2.2 h.2.2.2

section
variable {c : ByteArray → ByteArray → Int}
/-- The inner loop's state: x at place j, what is ahead of it and behind it up to i sorted, all behind it greater. -/
def InsW (c : ByteArray → ByteArray → Int) (zs cur : List ByteArray) (i j : Nat) (x : ByteArray) (S rest : List ByteArray) : Prop :=
  S = sortC c (zs.take i) ∧ S.length = i ∧ j ≤ i ∧ cur = S.take j ++ x :: (S.drop j ++ rest) ∧ rest = zs.drop (i + 1) ∧ zs[i]? = some x ∧ insAt c S x i = insAt c S x j
theorem InsW.start {zs cur : List ByteArray} {i : Nat} (hi : i < zs.length) (h : cur = sortC c (zs.take i) ++ zs.drop i) : InsW c zs cur i i zs[i] (sortC c (zs.take i)) (zs.drop (i + 1)) := by
  have hl : (sortC c (zs.take i)).length = i := by rw [sortC_len, List.length_take]; omega
  refine ⟨rfl, hl, Nat.le_refl _, ?_, rfl, List.getElem?_eq_getElem hi, rfl⟩
  rw [h, List.take_of_length_le (l := sortC c (zs.take i)) (by omega), List.drop_of_length_le (l := sortC c (zs.take i)) (by omega), List.drop_eq_getElem_cons hi]
  rfl
theorem InsW.fin {zs cur : List ByteArray} {i j : Nat} {x : ByteArray} {S rest : List ByteArray} (h : InsW c zs cur i j x S rest) (hj : insAt c S x j = j) : cur = sortC c (zs.take (i + 1)) ++ zs.drop (i + 1) := by
  obtain ⟨h1, h2, h3, h4, h5, h6, h7⟩ := h
  obtain ⟨hi, hx⟩ := List.getElem?_eq_some_iff.1 h6
  have e : zs.take (i + 1) = zs.take i ++ [x] := by rw [List.take_succ_eq_append_getElem hi, hx]
  rw [e, sortC_snoc, ← h1, insC, h2, h7, hj, h4, h5]
  simp
theorem InsW.stop0 {zs cur : List ByteArray} {i : Nat} {x : ByteArray} {S rest : List ByteArray} (h : InsW c zs cur i 0 x S rest) : cur = sortC c (zs.take (i + 1)) ++ zs.drop (i + 1) := h.fin rfl
theorem InsW.stop1 {zs cur : List ByteArray} {i k : Nat} {x : ByteArray} {S rest : List ByteArray} (h : InsW c zs cur i (k + 1) x S rest) (hk : k < S.length) (hc : ¬ c x S[k] < 0) : cur = sortC c (zs.take (i + 1)) ++ zs.drop (i + 1) := h.fin (insAt_stop hk hc)
theorem InsW.swap {zs cur : List ByteArray} {i k : Nat} {x p : ByteArray} {S rest : List ByteArray} (h : InsW c zs cur i (k + 1) x S rest) (hk : k < S.length) (hp : S[k] = p) (hc : c x p < 0) :
    InsW c zs (S.take k ++ x :: p :: (S.drop (k + 1) ++ rest)) i k x S rest := by
  obtain ⟨h1, h2, h3, h4, h5, h6, h7⟩ := h
  refine ⟨h1, h2, by omega, ?_, h5, h6, by rw [h7, insAt_less hk (by rw [hp]; exact hc)]⟩
  rw [List.drop_eq_getElem_cons hk, hp]
  rfl
theorem InsW.cur {zs cur : List ByteArray} {i k : Nat} {x p : ByteArray} {S rest : List ByteArray} (h : InsW c zs cur i (k + 1) x S rest) (hk : k < S.length) (hp : S[k] = p) : cur = S.take k ++ p :: x :: (S.drop (k + 1) ++ rest) := by
  obtain ⟨h1, h2, h3, h4, h5, h6, h7⟩ := h
  rw [h4, List.take_succ_eq_append_getElem hk, hp, List.append_assoc]
  rfl
theorem sort_one (zs : List ByteArray) : zs = sortC c (zs.take 1) ++ zs.drop 1 := by
  cases zs <;> rfl
theorem sort_short {zs : List ByteArray} (h : zs.length ≤ 1) : sortC c zs = zs := by
  match zs, h with
  | [], _ => rfl
  | [x], _ => rfl
theorem sorted_bad (anti : ∀ a b, c b a = - c a b) {zs : List ByteArray} {k : Nat} (hk : k + 1 < zs.length) (h : c (nthS zs (k + 1)) (nthS zs k) < 0) : sortedC c zs = false := by
  cases hb : sortedC c zs
  · rfl
  · rw [sortedC_iff] at hb
    have h1 := hb k hk
    have h2 := anti (nthS zs k) (nthS zs (k + 1))
    rw [nthS_eq hk, nthS_eq (by omega)] at h h2
    omega
theorem sorted_bad2 {zs : List ByteArray} {k : Nat} (hk : k + 1 < zs.length) (h : 0 < c (nthS zs k) (nthS zs (k + 1))) : sortedC c zs = false := by
  cases hb : sortedC c zs
  · rfl
  · rw [sortedC_iff] at hb
    have h1 := hb k hk
    rw [nthS_eq hk, nthS_eq (by omega)] at h
    omega
theorem sorted_good {zs : List ByteArray} (h : ∀ k, k + 1 < zs.length → c (nthS zs k) (nthS zs (k + 1)) ≤ 0) : sortedC c zs = true := by
  rw [sortedC_iff]
  intro k hk
  have := h k hk
  rwa [nthS_eq hk, nthS_eq (by omega)] at this
end

theorem at_listS (pre r : List ByteArray) (x p : ByteArray) (k : Nat) (hk : pre.length = k) : (pre ++ p :: x :: r)[k]? = some p ∧ (pre ++ p :: x :: r)[k + 1]? = some x := by
  subst hk
  constructor <;> simp
theorem swap_listS (pre r : List ByteArray) (x p : ByteArray) (k : Nat) (hk : pre.length = k) : ((pre ++ p :: x :: r).set (k + 1) p).set k x = pre ++ x :: p :: r := by
  subst hk
  rw [List.set_append_right _ _ (by omega), List.set_append_right _ _ (by omega)]
  simp [Nat.add_sub_cancel_left]
theorem own_swapS {w : World} {B g n c k : Nat} {pre r : List ByteArray} {x p : ByteArray} (h : OwnG layS 9 w B (some ⟨g, 0, none⟩) n c (pre ++ p :: x :: r)) (hk : pre.length = k) :
    OwnG layS 9 ((w.setCell ⟨g, k + 1, none⟩ (.string p)).setCell ⟨g, k, none⟩ (.string x)) B (some ⟨g, 0, none⟩) n c (pre ++ x :: p :: r) ∧ w.grownBy ((w.setCell ⟨g, k + 1, none⟩ (.string p)).setCell ⟨g, k, none⟩ (.string x)) (some g) := by
  obtain ⟨hl2, hl⟩ := at_listS pre r x p k hk
  have s1 := h.setAt (k := k + 1) (j := 0) (x' := p) (u := .string p) hl (by decide) rfl
  have s2 := s1.1.setAt (k := k) (j := 0) (x := p) (x' := x) (u := .string x) (by rw [List.getElem?_set_ne (by omega), hl2]) (by decide) rfl
  rw [swap_listS pre r x p k hk] at s2
  have e : layS.sz = 1 := rfl
  simp only [e, Nat.mul_one, Nat.add_zero] at s1 s2
  exact ⟨s2.1, grown_trans' s1.2 s2.2⟩

set_option maxRecDepth 100000 in
set_option maxHeartbeats 2000000 in
theorem insSortW_any (B g c : Nat) (zs : List ByteArray) (a1 : Option Addr) (n1 c1 : Nat) (a2 : Option Addr) (m c2 : Nat) (ss : List ByteArray) (ig : List Int) (w w0 : World) (ho : OwnG layS 9 w B (some ⟨g, 0, none⟩) zs.length c zs) (hx0 : Ext w0 w) (hB : w0.heap.size ≤ B) (hk : CmpOk w0 a1 n1 a2 m ss ig) (hz : ∀ s ∈ zs, okT ss s) :
    Calls Tryz.prog 101 #[.slice (some ⟨g, 0, none⟩) zs.length c, .int .i64 0, .int .i64 zs.length, .func (.func 25) #[.agg #[.slice a1 n1 c1, .slice a2 m c2]] #[]] w fun e w' =>
      e = .returned (.tuple #[]) ∧ OwnG layS 9 w' B (some ⟨g, 0, none⟩) zs.length c (sortC (compC ss ig) zs) ∧ Ext w0 w' := by
  have hm := ho.2
  have hBg : w0.heap.size ≤ g := Nat.le_trans hB (ho.1.lt g rfl).1
  have HZ := Lib.hid hz
  have HC := Lib.hid hk
  clear hz hk
  go_enter Tryz.func101, Tryz.ntmps101
  go_wp2
  go_loopw [8] (fun v wr => ∃ (i : Nat) (cur : List ByteArray), 1 ≤ i ∧ (i ≤ zs.length ∨ i = 1) ∧ v = .int .i64 i ∧ cur = sortC (compC ss ig) (zs.take i) ++ zs.drop i ∧ OwnG layS 9 wr B (some ⟨g, 0, none⟩) zs.length c cur ∧ Ext w0 wr) (fun v _ => zs.length - (intOf v).toNat)
  case atStart => exact ⟨1, zs, by decide, .inr rfl, rfl, sort_one zs, ho, hx0⟩
  case round =>
    obtain ⟨i, cur, hi1, hi2, rfl, hu, hw, hg⟩ := hrel
    by_cases hlt : i < zs.length
    · have hii : (i : Int) < zs.length := by omega
      have HW := Lib.hid (And.intro hw hg)
      have HS := Lib.hid (InsW.start hlt hu)
      clear hw hg hu
      go_wp2
      go_loopw [9] (fun v wr => ∃ (j : Nat) (cur : List ByteArray) (x : ByteArray) (S rest : List ByteArray), v = .int .i64 j ∧ InsW (compC ss ig) zs cur i j x S rest ∧ OwnG layS 9 wr B (some ⟨g, 0, none⟩) zs.length c cur ∧ Ext w0 wr) (fun v _ => (intOf v).toNat)
      case atStart => exact ⟨i, _, _, _, _, rfl, HS.out, HW.out.1, HW.out.2⟩
      case round =>
        obtain ⟨j, cur, x, S, rest, rfl, hI, hw, hg⟩ := hrel
        have HI := Lib.hid hI
        rcases j with _ | k
        · have HG := Lib.hid (And.intro hw hg)
          clear hw hg hI
          go_wp2
          refine wp_region_held_drew (S := Ext _) (by kernel_rfl) (Ext.refl _).drew (fun hHeld => ?_)
          generalize hwd : World.drew _ = wd at hHeld ⊢
          clear hwd
          refine takeYesH 0 18 ?v1 rfl rfl (by kernel_rfl) (by kernel_rfl) (by kernel_rfl) (fun _ _ _ _ h => h) (by kernel_rfl) hHeld ?y1 ?r1
          case y1 => intro wq hq; go_simp; first | done | with_reducible rfl
          simp only [Act.put, List.setIfInBounds_toArray, List.set_cons_zero, List.set_cons_succ]
          refine takeYesH 1 19 ?v2 rfl rfl (by kernel_rfl) (by kernel_rfl) (by kernel_rfl) (fun _ _ _ _ h => h) (by kernel_rfl) hHeld ?y2 ?r2
          case y2 => intro wq hq; go_simp; first | done | with_reducible rfl
          simp only [Act.put, List.setIfInBounds_toArray, List.set_cons_zero, List.set_cons_succ]
          refine takeYesH 2 20 ?v3 rfl rfl (by kernel_rfl) (by kernel_rfl) (by kernel_rfl) (fun _ _ _ _ h => h) (by kernel_rfl) hHeld ?y3 ?r3
          case y3 => intro wq hq; go_simp; first | done | with_reducible rfl
          simp only [Act.put, List.setIfInBounds_toArray, List.set_cons_zero, List.set_cons_succ]
          refine takeYesH 3 21 ?v4 rfl rfl (by kernel_rfl) (by kernel_rfl) (by kernel_rfl) (fun _ _ _ _ h => h) (by kernel_rfl) hHeld ?y4 ?r4
          case y4 => intro wq hq; go_simp; first | done | with_reducible rfl
          simp only [Act.put, List.setIfInBounds_toArray, List.set_cons_zero, List.set_cons_succ]
          refine takeNoH 4 22 rfl rfl (by kernel_rfl) (by kernel_rfl) (by kernel_rfl) (fun _ _ _ _ h => h) (by kernel_rfl) hHeld ?_
          simp only [Act.put, List.setIfInBounds_toArray, List.set_cons_zero, List.set_cons_succ]
          refine takeNoH 5 23 rfl rfl (by kernel_rfl) (by kernel_rfl) (by kernel_rfl) (fun _ _ _ _ h => h) (by kernel_rfl) hHeld ?_
          simp only [Act.put, List.setIfInBounds_toArray, List.set_cons_zero, List.set_cons_succ]
          refine takeNoH 6 24 rfl rfl (by kernel_rfl) (by kernel_rfl) (by kernel_rfl) (fun _ _ _ _ h => h) (by kernel_rfl) hHeld ?_
          simp only [Act.put, List.setIfInBounds_toArray, List.set_cons_zero, List.set_cons_succ]
          refine takeNoH 7 25 rfl rfl (by kernel_rfl) (by kernel_rfl) (by kernel_rfl) (fun _ _ _ _ h => h) (by kernel_rfl) hHeld ?_
          simp only [Act.put, List.setIfInBounds_toArray, List.set_cons_zero, List.set_cons_succ]
          refine takeNoH 8 26 rfl rfl (by kernel_rfl) (by kernel_rfl) (by kernel_rfl) (fun _ _ _ _ h => h) (by kernel_rfl) hHeld ?_
          simp only [Act.put, List.setIfInBounds_toArray, List.set_cons_zero, List.set_cons_succ]
          refine takeNoH 9 27 rfl rfl (by kernel_rfl) (by kernel_rfl) (by kernel_rfl) (fun _ _ _ _ h => h) (by kernel_rfl) hHeld ?_
          simp only [Act.put, List.setIfInBounds_toArray, List.set_cons_zero, List.set_cons_succ]
          refine takeNoH 10 28 rfl rfl (by kernel_rfl) (by kernel_rfl) (by kernel_rfl) (fun _ _ _ _ h => h) (by kernel_rfl) hHeld ?_
          simp only [Act.put, List.setIfInBounds_toArray, List.set_cons_zero, List.set_cons_succ]
          refine takeNoH 11 29 rfl rfl (by kernel_rfl) (by kernel_rfl) (by kernel_rfl) (fun _ _ _ _ h => h) (by kernel_rfl) hHeld ?_
          simp only [Act.put, List.setIfInBounds_toArray, List.set_cons_zero, List.set_cons_succ]
          refine takeNoH 12 30 rfl rfl (by kernel_rfl) (by kernel_rfl) (by kernel_rfl) (fun _ _ _ _ h => h) (by kernel_rfl) hHeld ?_
          simp only [Act.put, List.setIfInBounds_toArray, List.set_cons_zero, List.set_cons_succ]
          refine takeNoH 13 31 rfl rfl (by kernel_rfl) (by kernel_rfl) (by kernel_rfl) (fun _ _ _ _ h => h) (by kernel_rfl) hHeld ?_
          simp only [Act.put, List.setIfInBounds_toArray, List.set_cons_zero, List.set_cons_succ]
          refine takeNoH 14 32 rfl rfl (by kernel_rfl) (by kernel_rfl) (by kernel_rfl) (fun _ _ _ _ h => h) (by kernel_rfl) hHeld ?_
          simp only [Act.put, List.setIfInBounds_toArray, List.set_cons_zero, List.set_cons_succ]
          refine takeNoH 15 33 rfl rfl (by kernel_rfl) (by kernel_rfl) (by kernel_rfl) (fun _ _ _ _ h => h) (by kernel_rfl) hHeld ?_
          simp only [Act.put, List.setIfInBounds_toArray, List.set_cons_zero, List.set_cons_succ]
          refine takeYesH 16 34 ?v5 rfl rfl (by kernel_rfl) (by kernel_rfl) (by kernel_rfl) (fun _ _ _ _ h => h) (by kernel_rfl) hHeld ?y5 ?r5
          case y5 => intro wq hq; go_simp; first | done | with_reducible rfl
          simp only [Act.put, List.setIfInBounds_toArray, List.set_cons_zero, List.set_cons_succ]
          refine wpAnyH_done (by kernel_rfl) ?_ _
          go_wp2
          refine ⟨⟨i + 1, cur, by omega, .inl (by omega), by go_num, HI.out.stop0, HG.out.1.ext hHeld, HG.out.2.trans hHeld⟩, ?_⟩
          simp only [intOf]
          omega
        · have hkS : k < S.length := by have := hI.2.1; have := hI.2.2.1; omega
          obtain ⟨p, hpS⟩ : ∃ p, S[k] = p := ⟨_, rfl⟩
          have hcur := hI.cur hkS hpS
          have hpk : (S.take k).length = k := by rw [List.length_take]; omega
          obtain ⟨q1, q2⟩ := at_listS (S.take k) (S.drop (k + 1) ++ rest) x p k hpk
          rw [← hcur] at q1 q2
          have hgl : g < wr.heap.size := (hw.1.lt g rfl).2
          have hrw := hw.rd
          obtain ⟨b, o, e, hb, hc⟩ := hrw.at (by omega)
          cases e
          have c1 : wr.cell? ⟨g, k + 1, none⟩ = some (.string x) := by simpa [layS] using hc (k + 1) _ q2 0 _ rfl
          have c3 : wr.cell? ⟨g, k, none⟩ = some (.string p) := by simpa [layS] using hc k _ q1 0 _ rfl
          have hkl : k + 1 < zs.length := by have := hI.2.1; have := hI.2.2.1; omega
          have hox : okT ss x := HZ.out x (by
            have h6 := hI.2.2.2.2.2.1
            exact List.mem_of_getElem? h6)
          have hop : okT ss p := HZ.out p (by
            have h1 := hI.1
            have : p ∈ S := by rw [← hpS]; exact List.getElem_mem hkS
            rw [h1, sortC_mem] at this
            exact List.mem_of_mem_take this)
          have HG := Lib.hid (And.intro hw hg)
          have HK := Lib.hid (And.intro hg HC.out)
          clear hw hg hc q1 q2 hrw hI
          have hki : (k : Int) + 1 < zs.length := by omega
          have hk0 : (0 : Int) < (k : Int) + 1 := by omega
          have hk1 : (0 : Int) ≤ (k : Int) + 1 := by omega
          have hkw : IntKind.i64.wrap ((k : Int) + 1 - 1) = k := (IntWalk.i64_in _ (by omega)).trans (by omega)
          have hkt : ((k : Int) + 1).toNat = k + 1 := by omega
          have hkn : k < zs.length := by omega
          have hkv : IntKind.i64.wrap (k : Int) = k := IntWalk.i64_in _ (by omega)
          go_wp2
          refine wp_region_held_drew (S := Ext _) (by kernel_rfl) (Ext.refl _).drew (fun hHeld => ?_)
          generalize hwd : World.drew _ = wd at hHeld ⊢
          clear hwd
          refine takeYesH 0 18 ?v6 rfl rfl (by kernel_rfl) (by kernel_rfl) (by kernel_rfl) (fun _ _ _ _ h => h) (by kernel_rfl) hHeld ?y6 ?r6
          case y6 => intro wq hq; go_simp; first | done | with_reducible rfl
          simp only [Act.put, List.setIfInBounds_toArray, List.set_cons_zero, List.set_cons_succ]
          refine takeYesH 1 19 ?v7 rfl rfl (by kernel_rfl) (by kernel_rfl) (by kernel_rfl) (fun _ _ _ _ h => h) (by kernel_rfl) hHeld ?y7 ?r7
          case y7 => intro wq hq; go_simp; first | done | with_reducible rfl
          simp only [Act.put, List.setIfInBounds_toArray, List.set_cons_zero, List.set_cons_succ]
          refine takeYesH 2 20 ?v8 rfl rfl (by kernel_rfl) (by kernel_rfl) (by kernel_rfl) (fun _ _ _ _ h => h) (by kernel_rfl) hHeld ?y8 ?r8
          case y8 => intro wq hq; go_simp; first | done | with_reducible rfl
          simp only [Act.put, List.setIfInBounds_toArray, List.set_cons_zero, List.set_cons_succ]
          refine takeYesH 3 21 ?v9 rfl rfl (by kernel_rfl) (by kernel_rfl) (by kernel_rfl) (fun _ _ _ _ h => h) (by kernel_rfl) hHeld ?y9 ?r9
          case y9 => intro wq hq; go_simp; first | done | with_reducible rfl
          simp only [Act.put, List.setIfInBounds_toArray, List.set_cons_zero, List.set_cons_succ]
          refine takeYesH 4 22 ?v10 rfl rfl (by kernel_rfl) (by kernel_rfl) (by kernel_rfl) (fun _ _ _ _ h => h) (by kernel_rfl) hHeld ?y10 ?r10
          case y10 => intro wq hq; go_simp; first | done | with_reducible rfl
          simp only [Act.put, List.setIfInBounds_toArray, List.set_cons_zero, List.set_cons_succ]
          refine takeYesH 5 23 ?v11 rfl rfl (by kernel_rfl) (by kernel_rfl) (by kernel_rfl) (fun _ _ _ _ h => h) (by kernel_rfl) hHeld ?y11 ?r11
          case y11 => intro wq hq; go_simp; first | done | with_reducible rfl
          simp only [Act.put, List.setIfInBounds_toArray, List.set_cons_zero, List.set_cons_succ]
          refine takeYesH 6 24 ?v12 rfl rfl (by kernel_rfl) (by kernel_rfl) (by kernel_rfl) (fun _ _ _ _ h => h) (by kernel_rfl) hHeld ?y12 ?r12
          case y12 => intro wq hq; go_simp; first | done | with_reducible rfl
          simp only [Act.put, List.setIfInBounds_toArray, List.set_cons_zero, List.set_cons_succ]
          refine takeYesH 7 25 ?v13 rfl rfl (by kernel_rfl) (by kernel_rfl) (by kernel_rfl) (fun _ _ _ _ h => h) (by kernel_rfl) hHeld ?y13 ?r13
          case y13 => intro wq hq; go_simp; first | done | with_reducible rfl
          simp only [Act.put, List.setIfInBounds_toArray, List.set_cons_zero, List.set_cons_succ]
          refine takeYesH 8 26 ?v14 rfl rfl (by kernel_rfl) (by kernel_rfl) (by kernel_rfl) (fun _ _ _ _ h => h) (by kernel_rfl) hHeld ?y14 ?r14
          case y14 =>
            intro wq hq
            have z1 := (Below.cell hq (p := ⟨g, k + 1, none⟩) hgl).trans c1
            have z3 := (Below.cell hq (p := ⟨g, k, none⟩) hgl).trans c3
            go_simp
            first | done | with_reducible rfl
          simp only [Act.put, List.setIfInBounds_toArray, List.set_cons_zero, List.set_cons_succ]
          refine takeYesH 9 27 ?v15 rfl rfl (by kernel_rfl) (by kernel_rfl) (by kernel_rfl) (fun _ _ _ _ h => h) (by kernel_rfl) hHeld ?y15 ?r15
          case y15 => intro wq hq; go_simp; first | done | with_reducible rfl
          simp only [Act.put, List.setIfInBounds_toArray, List.set_cons_zero, List.set_cons_succ]
          refine takeYesH 10 28 ?v16 rfl rfl (by kernel_rfl) (by kernel_rfl) (by kernel_rfl) (fun _ _ _ _ h => h) (by kernel_rfl) hHeld ?y16 ?r16
          case y16 => intro wq hq; go_simp; first | done | with_reducible rfl
          simp only [Act.put, List.setIfInBounds_toArray, List.set_cons_zero, List.set_cons_succ]
          refine takeYesH 11 29 ?v17 rfl rfl (by kernel_rfl) (by kernel_rfl) (by kernel_rfl) (fun _ _ _ _ h => h) (by kernel_rfl) hHeld ?y17 ?r17
          case y17 => intro wq hq; go_simp; first | done | with_reducible rfl
          simp only [Act.put, List.setIfInBounds_toArray, List.set_cons_zero, List.set_cons_succ]
          refine takeYesH 12 30 ?v18 rfl rfl (by kernel_rfl) (by kernel_rfl) (by kernel_rfl) (fun _ _ _ _ h => h) (by kernel_rfl) hHeld ?y18 ?r18
          case y18 => intro wq hq; go_simp; first | done | with_reducible rfl
          simp only [Act.put, List.setIfInBounds_toArray, List.set_cons_zero, List.set_cons_succ]
          refine takeYesH 13 31 ?v19 rfl rfl (by kernel_rfl) (by kernel_rfl) (by kernel_rfl) (fun _ _ _ _ h => h) (by kernel_rfl) hHeld ?y19 ?r19
          case y19 =>
            intro wq hq
            have z1 := (Below.cell hq (p := ⟨g, k + 1, none⟩) hgl).trans c1
            have z3 := (Below.cell hq (p := ⟨g, k, none⟩) hgl).trans c3
            go_simp
            first | done | with_reducible rfl
          simp only [Act.put, List.setIfInBounds_toArray, List.set_cons_zero, List.set_cons_succ]
          refine wpAnyH_ready (rs := [14]) (by kernel_rfl) (by simp) ?_
          refine AllReadyH.cons rfl (fun K hK => ?_) AllReadyH.nil
          go_simp
          refine (compareT_any (HK.out.2.ext (HK.out.1.trans hHeld)) hox hop).mono ?_
          rintro e w4 ⟨rfl, x4⟩
          go_wp2_with fail
          refine hK.out _ _ (hHeld.trans x4) (fun hHeld => ?_)
          clear hK K
          try simp only [Act.put, List.setIfInBounds_toArray, List.set_cons_zero, List.set_cons_succ]
          refine takeYesH 15 33 ?v20 rfl rfl (by kernel_rfl) (by kernel_rfl) (by kernel_rfl) (fun _ _ _ _ h => h) (by kernel_rfl) hHeld ?y20 ?r20
          case y20 => intro wq hq; go_simp; first | done | with_reducible rfl
          simp only [Act.put, List.setIfInBounds_toArray, List.set_cons_zero, List.set_cons_succ]
          refine takeYesH 16 34 ?v21 rfl rfl (by kernel_rfl) (by kernel_rfl) (by kernel_rfl) (fun _ _ _ _ h => h) (by kernel_rfl) hHeld ?y21 ?r21
          case y21 => intro wq hq; go_simp; first | done | with_reducible rfl
          simp only [Act.put, List.setIfInBounds_toArray, List.set_cons_zero, List.set_cons_succ]
          refine wpAnyH_done (by kernel_rfl) ?_ _
          by_cases hcmp : compC ss ig x p < 0
          · have hx4 : OwnG layS 9 w4 B (some ⟨g, 0, none⟩) zs.length c cur := HG.out.1.ext hHeld
            have HX := Lib.hid (And.intro hx4 (HG.out.2.trans hHeld))
            have hglx : g < w4.heap.size := (hx4.1.lt g rfl).2
            have z1 := (Below.cell hHeld (p := ⟨g, k + 1, none⟩) hgl).trans c1
            have z3 := (Below.cell hHeld (p := ⟨g, k, none⟩) hgl).trans c3
            have f1 := hx4.1.frozenAt (k + 1)
            have f3 := hx4.1.frozenAt k
            clear hx4 c1 c3 hHeld
            go_wp2
            go_region
            all_goals
              go_wp2
              go_roundw
              case rel => rw [hcur] at HX; exact ⟨k, _, x, S, rest, rfl, HI.out.swap hkS hpS hcmp, (own_swapS HX.out.1 hpk).1.ext (Ext.refl _).drew, (HX.out.2.grown (own_swapS HX.out.1 hpk).2 (by rintro q e; cases e; exact hBg)).trans (Ext.refl _).drew⟩
              case measure => simp only [intOf]; omega
          · go_wp2
            refine ⟨⟨i + 1, cur, by omega, .inl (by omega), by go_num, HI.out.stop1 hkS (by rw [hpS]; exact hcmp), HG.out.1.ext hHeld, HG.out.2.trans hHeld⟩, ?_⟩
            simp only [intOf]
            omega
    · have HW := Lib.hid (And.intro hw hg)
      clear hw hg
      have hcz : cur = sortC (compC ss ig) zs := by
        rw [hu]
        rcases Nat.lt_or_ge zs.length 1 with h0 | h0
        · have : zs = [] := List.eq_nil_of_length_eq_zero (by omega)
          subst this; simp [sortC]
        · have : i = zs.length := by omega
          rw [this, List.take_length, List.drop_length, List.append_nil]
      have HE := Lib.hid hcz
      clear hcz hu
      go_wp2
      go_end0
      exact ⟨rfl, by rw [← HE.out]; exact HW.out.1, HW.out.2⟩

theorem insSortW2_any (B g c : Nat) (zs : List ByteArray) (hi : Int) (hhi : hi = zs.length) (a1 : Option Addr) (n1 c1 : Nat) (a2 : Option Addr) (m c2 : Nat) (ss : List ByteArray) (ig : List Int) (w w0 : World) (ho : OwnG layS 9 w B (some ⟨g, 0, none⟩) zs.length c zs) (hx0 : Ext w0 w) (hB : w0.heap.size ≤ B) (hk : CmpOk w0 a1 n1 a2 m ss ig) (hz : ∀ s ∈ zs, okT ss s) :
    Calls Tryz.prog 101 #[.slice (some ⟨g, 0, none⟩) zs.length c, .int .i64 0, .int .i64 hi, .func (.func 25) #[.agg #[.slice a1 n1 c1, .slice a2 m c2]] #[]] w fun e w' =>
      e = .returned (.tuple #[]) ∧ OwnG layS 9 w' B (some ⟨g, 0, none⟩) zs.length c (sortC (compC ss ig) zs) ∧ Ext w0 w' := by
  subst hhi
  exact insSortW_any B g c zs a1 n1 c1 a2 m c2 ss ig w w0 ho hx0 hB hk hz

set_option maxRecDepth 100000 in
theorem insNoop_any (a : Option Addr) (n c lo hi : Nat) (f : Value) (w : World) (h : hi ≤ lo + 1) (hl : lo ≤ 100) :
    Calls Tryz.prog 101 #[.slice a n c, .int .i64 lo, .int .i64 hi, f] w fun e w' => e = .returned (.tuple #[]) ∧ w = w' := by
  have h1 : ¬ (lo : Int) + 1 < hi := by omega
  go_enter Tryz.func101, Tryz.ntmps101
  go_wp2
  go_loopw [8] (fun v wr => v = .int .i64 ((lo : Int) + 1) ∧ wr = w) (fun _ _ => 0)
  case atStart => exact ⟨by go_num, rfl⟩
  case round =>
    obtain ⟨rfl, rfl⟩ := hrel
    go_wp2
    go_end0
    exact ⟨rfl, rfl⟩

set_option maxRecDepth 100000 in
set_option maxHeartbeats 2000000 in
theorem stableShort_any (a : Option Addr) (n c : Nat) (f : Value) (w : World) (hn : n ≤ 1) :
    Calls Tryz.prog 69 #[.slice a n c, .int .i64 n, f] w fun e w' => e = .returned (.tuple #[]) ∧ w = w' := by
  have h20 : ¬ (20 : Int) ≤ n := by omega
  have h21 : ¬ (20 : Int) < n := by omega
  go_enter Tryz.func69, Tryz.ntmps69
  go_wp2
  go_loopw [7, 8] (fun x y wr => x = .int .i64 0 ∧ y = .int .i64 20 ∧ wr = w) (fun _ _ _ => 0)
  case atStart => exact ⟨rfl, rfl, rfl⟩
  case round =>
    obtain ⟨rfl, rfl, rfl⟩ := hrel
    go_wp2_with fail
    refine (insNoop_any a n c 0 n f _ (by omega) (by omega)).mono ?_
    rintro e w1 ⟨rfl, hw1⟩
    have HW := Lib.hid hw1
    clear hw1
    go_wp2
    go_loopw [6] (fun x wr' => x = .int .i64 20 ∧ wr' = w1) (fun _ _ => 0)
    case atStart => exact ⟨rfl, rfl⟩
    case round =>
      obtain ⟨rfl, hw2⟩ := hrel
      have HW2 := Lib.hid hw2
      clear hw2
      go_wp2
      go_end0
      exact ⟨rfl, HW.out.trans HW2.out.symm⟩

set_option maxRecDepth 100000 in
set_option maxHeartbeats 2000000 in
theorem stableW_any (B g c : Nat) (zs : List ByteArray) (a1 : Option Addr) (n1 c1 : Nat) (a2 : Option Addr) (m c2 : Nat) (ss : List ByteArray) (ig : List Int) (w w0 : World) (ho : OwnG layS 9 w B (some ⟨g, 0, none⟩) zs.length c zs) (hx0 : Ext w0 w) (hB : w0.heap.size ≤ B) (hk : CmpOk w0 a1 n1 a2 m ss ig) (hz : ∀ s ∈ zs, okT ss s) (hn : zs.length ≤ 20) :
    Calls Tryz.prog 69 #[.slice (some ⟨g, 0, none⟩) zs.length c, .int .i64 zs.length, .func (.func 25) #[.agg #[.slice a1 n1 c1, .slice a2 m c2]] #[]] w fun e w' =>
      e = .returned (.tuple #[]) ∧ OwnG layS 9 w' B (some ⟨g, 0, none⟩) zs.length c (sortC (compC ss ig) zs) ∧ Ext w0 w' := by
  have HO := Lib.hid (And.intro ho hx0)
  have HK := Lib.hid (And.intro hk hz)
  have h21 : ¬ (20 : Int) < zs.length := by omega
  clear ho hx0 hk hz
  go_enter Tryz.func69, Tryz.ntmps69
  go_wp2
  go_loopw [7, 8] (fun x y wr => x = .int .i64 0 ∧ y = .int .i64 20 ∧ wr = w ∨ x = .int .i64 20 ∧ y = .int .i64 40 ∧ zs.length = 20 ∧ OwnG layS 9 wr B (some ⟨g, 0, none⟩) zs.length c (sortC (compC ss ig) zs) ∧ Ext w0 wr) (fun _ y _ => 40 - (intOf y).toNat)
  case atStart => exact .inl ⟨rfl, rfl, rfl⟩
  case round =>
    rcases hrel with ⟨rfl, rfl, rfl⟩ | ⟨rfl, rfl, h20, hw, hx⟩
    · by_cases h20 : zs.length = 20
      · have hi : (20 : Int) ≤ zs.length := by omega
        have H20 := Lib.hid h20
        clear h20
        go_wp2_with fail
        refine (insSortW2_any B g c zs 20 (by have := H20.out; omega) a1 n1 c1 a2 m c2 ss ig wr w0 HO.out.1 HO.out.2 hB HK.out.1 HK.out.2).mono ?_
        rintro e w1 ⟨rfl, o1, x1⟩
        have H1 := Lib.hid (And.intro o1 x1)
        clear o1 x1
        go_wp2
        go_roundw
        case rel => exact .inr ⟨rfl, rfl, H20.out, H1.out.1, H1.out.2⟩
        case measure => simp [intOf]
      · have hi : ¬ (20 : Int) ≤ zs.length := by omega
        go_wp2_with fail
        refine (insSortW_any B g c zs a1 n1 c1 a2 m c2 ss ig wr w0 HO.out.1 HO.out.2 hB HK.out.1 HK.out.2).mono ?_
        rintro e w1 ⟨rfl, o1, x1⟩
        have H1 := Lib.hid (And.intro o1 x1)
        clear o1 x1
        go_wp2
        go_loopw [6] (fun x wr' => x = .int .i64 20 ∧ wr' = w1) (fun _ _ => 0)
        case atStart => exact ⟨rfl, rfl⟩
        case round =>
          obtain ⟨rfl, rfl⟩ := hrel
          go_wp2
          go_end0
          exact ⟨rfl, H1.out.1, H1.out.2⟩
    · have hi : ¬ (40 : Int) ≤ zs.length := by omega
      have H20 := Lib.hid h20
      clear h20
      go_wp2_with fail
      refine (insNoop_any _ _ _ 20 _ _ _ (by have := H20.out; omega) (by omega)).mono ?_
      rintro e w1 ⟨rfl, rfl⟩
      have HX := Lib.hid (And.intro hw hx)
      clear hw hx
      go_wp2
      go_loopw [6] (fun x wr' => x = .int .i64 20 ∧ OwnG layS 9 wr' B (some ⟨g, 0, none⟩) zs.length c (sortC (compC ss ig) zs) ∧ Ext w0 wr') (fun _ _ => 0)
      case atStart => exact ⟨rfl, HX.out.1, HX.out.2⟩
      case round =>
        obtain ⟨rfl, hw, hx⟩ := hrel
        have HY := Lib.hid (And.intro hw hx)
        clear hw hx
        go_wp2
        go_end0
        exact ⟨rfl, HY.out.1, HY.out.2⟩

set_option maxRecDepth 100000 in
set_option maxHeartbeats 2000000 in
theorem isSortedW_any (a : Option Addr) (n c : Nat) (zs : List ByteArray) (a1 : Option Addr) (n1 c1 : Nat) (a2 : Option Addr) (m c2 : Nat) (ss : List ByteArray) (ig : List Int) (w : World) (hr : RdS w a n zs) (hk : CmpOk w a1 n1 a2 m ss ig) (hz0 : ∀ s ∈ zs, okT ss s) :
    Calls Tryz.prog 29 #[.slice a n c, .func (.func 25) #[.agg #[.slice a1 n1 c1, .slice a2 m c2]] #[]] w fun e w' => e = .returned (.bool (sortedC (compC ss ig) zs)) ∧ Ext w w' := by
  have hm := hr.le
  have hln := hr.len
  have HK := Lib.hid hk
  have hz := Lib.hid hz0
  clear hk hz0
  have hnw : IntKind.i64.wrap ((n : Int) - 1) = (n : Int) - 1 := IntWalk.i64_in _ (by omega)
  go_enter Tryz.func29, Tryz.ntmps29
  go_wp2
  go_loopw [5] (fun v wr => Ext w wr ∧ (n = 0 ∧ v = .int .i64 (-1) ∨ ∃ k : Nat, k < n ∧ v = .int .i64 k ∧ ∀ j, k ≤ j → j + 1 < zs.length → compC ss ig (nthS zs j) (nthS zs (j + 1)) ≤ 0)) (fun v _ => (intOf v).toNat)
  case atStart =>
    refine ⟨Ext.refl _, ?_⟩
    by_cases h0 : n = 0
    · exact .inl ⟨h0, by subst h0; rfl⟩
    · exact .inr ⟨n - 1, by omega, by rw [show ((n - 1 : Nat) : Int) = (n : Int) - 1 from by omega], fun j h1 h2 => by omega⟩
  case round =>
    obtain ⟨hx, ⟨h0, rfl⟩ | ⟨k, hk, rfl, hall⟩⟩ := hrel
    · have HZ := Lib.hid (show sortedC (compC ss ig) zs = true by rw [List.eq_nil_of_length_eq_zero (hln.trans h0)]; rfl)
      go_wp2
      go_ret
      exact ⟨ret_bool HZ.out.symm, hx⟩
    · have HA := Lib.hid hall
      clear hall
      rcases k with _ | k
      · have HZ := Lib.hid (sorted_good (c := compC ss ig) (zs := zs) fun j hj => HA.out j (Nat.zero_le _) hj)
        go_wp2
        go_ret
        exact ⟨ret_bool HZ.out.symm, hx⟩
      · obtain ⟨b, o, rfl, hbl, hcc⟩ := (hr.ext hx).at (by omega)
        have d1 := hcc (k + 1) (by omega)
        have d3 := hcc k (by omega)
        clear hcc
        have hki : (k : Int) + 1 < n := by omega
        have hk0 : (0 : Int) < (k : Int) + 1 := by omega
        have hk1 : (0 : Int) ≤ (k : Int) + 1 := by omega
        have hkw : IntKind.i64.wrap ((k : Int) + 1 - 1) = k := (IntWalk.i64_in _ (by omega)).trans (by omega)
        have hkt : ((k : Int) + 1).toNat = k + 1 := by omega
        have hkn : k < n := by omega
        have hkn2 : (k : Int) < n := by omega
        have hkv : IntKind.i64.wrap (k : Int) = k := IntWalk.i64_in _ (by omega)
        go_wp2
        refine wp_region_held_drew (S := Ext wr) (by kernel_rfl) (Ext.refl _).drew (fun hHeld => ?_)
        generalize hwd : World.drew _ = wd at hHeld ⊢
        clear hwd
        refine takeYesH 0 13 ?v22 rfl rfl (by kernel_rfl) (by kernel_rfl) (by kernel_rfl) (fun _ _ _ _ h => h) (by kernel_rfl) hHeld ?y22 ?r22
        case y22 => intro wq hq; go_simp; first | done | with_reducible rfl
        simp only [Act.put, List.setIfInBounds_toArray, List.set_cons_zero, List.set_cons_succ]
        refine takeYesH 1 14 ?v23 rfl rfl (by kernel_rfl) (by kernel_rfl) (by kernel_rfl) (fun _ _ _ _ h => h) (by kernel_rfl) hHeld ?y23 ?r23
        case y23 => intro wq hq; go_simp; first | done | with_reducible rfl
        simp only [Act.put, List.setIfInBounds_toArray, List.set_cons_zero, List.set_cons_succ]
        refine takeYesH 2 15 ?v24 rfl rfl (by kernel_rfl) (by kernel_rfl) (by kernel_rfl) (fun _ _ _ _ h => h) (by kernel_rfl) hHeld ?y24 ?r24
        case y24 => intro wq hq; go_simp; first | done | with_reducible rfl
        simp only [Act.put, List.setIfInBounds_toArray, List.set_cons_zero, List.set_cons_succ]
        refine takeYesH 3 16 ?v25 rfl rfl (by kernel_rfl) (by kernel_rfl) (by kernel_rfl) (fun _ _ _ _ h => h) (by kernel_rfl) hHeld ?y25 ?r25
        case y25 => intro wq hq; go_simp; first | done | with_reducible rfl
        simp only [Act.put, List.setIfInBounds_toArray, List.set_cons_zero, List.set_cons_succ]
        refine takeYesH 4 17 ?v26 rfl rfl (by kernel_rfl) (by kernel_rfl) (by kernel_rfl) (fun _ _ _ _ h => h) (by kernel_rfl) hHeld ?y26 ?r26
        case y26 =>
          intro wq hq
          have z1 := (Below.cell hq (p := ⟨b, o + (k + 1), none⟩) hbl).trans d1
          have z3 := (Below.cell hq (p := ⟨b, o + k, none⟩) hbl).trans d3
          go_simp
          first | done | with_reducible rfl
        simp only [Act.put, List.setIfInBounds_toArray, List.set_cons_zero, List.set_cons_succ]
        refine takeYesH 5 18 ?v27 rfl rfl (by kernel_rfl) (by kernel_rfl) (by kernel_rfl) (fun _ _ _ _ h => h) (by kernel_rfl) hHeld ?y27 ?r27
        case y27 => intro wq hq; go_simp; first | done | with_reducible rfl
        simp only [Act.put, List.setIfInBounds_toArray, List.set_cons_zero, List.set_cons_succ]
        refine takeYesH 6 19 ?v28 rfl rfl (by kernel_rfl) (by kernel_rfl) (by kernel_rfl) (fun _ _ _ _ h => h) (by kernel_rfl) hHeld ?y28 ?r28
        case y28 => intro wq hq; go_simp; first | done | with_reducible rfl
        simp only [Act.put, List.setIfInBounds_toArray, List.set_cons_zero, List.set_cons_succ]
        refine takeYesH 7 20 ?v29 rfl rfl (by kernel_rfl) (by kernel_rfl) (by kernel_rfl) (fun _ _ _ _ h => h) (by kernel_rfl) hHeld ?y29 ?r29
        case y29 => intro wq hq; go_simp; first | done | with_reducible rfl
        simp only [Act.put, List.setIfInBounds_toArray, List.set_cons_zero, List.set_cons_succ]
        refine takeYesH 8 21 ?v30 rfl rfl (by kernel_rfl) (by kernel_rfl) (by kernel_rfl) (fun _ _ _ _ h => h) (by kernel_rfl) hHeld ?y30 ?r30
        case y30 => intro wq hq; go_simp; first | done | with_reducible rfl
        simp only [Act.put, List.setIfInBounds_toArray, List.set_cons_zero, List.set_cons_succ]
        refine takeYesH 9 22 ?v31 rfl rfl (by kernel_rfl) (by kernel_rfl) (by kernel_rfl) (fun _ _ _ _ h => h) (by kernel_rfl) hHeld ?y31 ?r31
        case y31 =>
          intro wq hq
          have z1 := (Below.cell hq (p := ⟨b, o + (k + 1), none⟩) hbl).trans d1
          have z3 := (Below.cell hq (p := ⟨b, o + k, none⟩) hbl).trans d3
          go_simp
          first | done | with_reducible rfl
        simp only [Act.put, List.setIfInBounds_toArray, List.set_cons_zero, List.set_cons_succ]
        refine wpAnyH_ready (rs := [10]) (by kernel_rfl) (by simp) ?_
        refine AllReadyH.cons rfl (fun K hK => ?_) AllReadyH.nil
        go_simp
        refine (compareT_any (HK.out.ext (hx.trans hHeld)) (hz.out _ (nthS_mem (by omega))) (hz.out _ (nthS_mem (by omega)))).mono ?_
        rintro e w4 ⟨rfl, x4⟩
        go_wp2_with fail
        refine hK.out _ _ (hHeld.trans x4) (fun hHeld => ?_)
        clear hK K
        try simp only [Act.put, List.setIfInBounds_toArray, List.set_cons_zero, List.set_cons_succ]
        refine takeYesH 11 24 ?v32 rfl rfl (by kernel_rfl) (by kernel_rfl) (by kernel_rfl) (fun _ _ _ _ h => h) (by kernel_rfl) hHeld ?y32 ?r32
        case y32 => intro wq hq; go_simp; first | done | with_reducible rfl
        simp only [Act.put, List.setIfInBounds_toArray, List.set_cons_zero, List.set_cons_succ]
        refine wpAnyH_done (by kernel_rfl) ?_ _
        by_cases hcmp : compC ss ig (nthS zs (k + 1)) (nthS zs k) < 0
        · have HZ := Lib.hid (sorted_bad (compC_anti ss ig) (by omega) hcmp)
          go_wp2
          go_ret
          exact ⟨ret_bool HZ.out.symm, hx.trans hHeld⟩
        · have HZ := Lib.hid hcmp
          clear hcmp
          go_wp2
          go_roundw
          case rel => exact ⟨hx.trans hHeld, .inr ⟨k, by omega, rfl, fun j hj hj2 => by
                by_cases e : j = k
                · subst e; have := compC_anti ss ig (nthS zs j) (nthS zs (j + 1)); have := HZ.out; omega
                · exact HA.out j (by omega) hj2⟩⟩
          case measure => simp only [intOf]; omega

end Go.Proofs.YtdicjpkcgeofjaaGreatDoor
