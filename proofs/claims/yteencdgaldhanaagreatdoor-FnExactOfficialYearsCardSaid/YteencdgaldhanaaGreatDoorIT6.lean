/-
  slices.Collect, slices.SortedFunc at spans; the union of spans.
-/
import Derived.Test.YteencdgaldhanaaGreatDoorIT5
import Derived.Test.YteencdgaldhanaaGreatDoorUN
namespace Go.Proofs.YteencdgaldhanaaGreatDoor
open Go.RowKit

theorem spAt_of {w : World} {a : Option Addr} {n c : Nat} {zs : List SpanV} (h : OwnG laySp 60 w 0 a n c zs) : SpAt w.heap.size w a c zs ∧ n = zs.length := by
  have hl := h.rd.len
  rcases h.1.2 with ⟨e, h0⟩ | ⟨g, cap, cur, e, hb, hg, _⟩
  · cases e
    exact ⟨.inl ⟨rfl, rfl, List.eq_nil_of_length_eq_zero (by omega)⟩, hl.symm⟩
  · cases e
    refine ⟨.inr ⟨g, 0, rfl, (Array.getElem?_eq_some_iff.1 hg).1, fun k x hk => ?_⟩, hl.symm⟩
    obtain ⟨b, o, e, _, hc⟩ := h.rd.at (by rw [← hl]; exact Nat.lt_of_le_of_lt (Nat.zero_le _) (List.getElem?_eq_some_iff.1 hk).1)
    cases e
    exact ⟨by simpa [laySp] using hc k x hk 0 _ rfl, by simpa [laySp, Nat.add_assoc] using hc k x hk 1 _ rfl⟩

set_option maxRecDepth 100000 in
theorem collectSp_any (Bs : Nat) (a : Option Addr) (c : Nat) (zs : List SpanV) (hlen : zs.length ≤ 4294967296) (w : World) (hBs : Bs < w.heap.size)
    (hc : w.cell? ⟨Bs, 0, none⟩ = some (.slice a zs.length c)) (hI : SpAt w.heap.size w a c zs) :
    Calls Tryz.prog 111 #[.func (.func 113) #[] #[.pointer (some ⟨Bs, 0, none⟩)]] w fun e w' => ∃ v, e = .returned v ∧ NewG laySp 60 w w' zs v := by
  go_enter Tryz.func111, Tryz.ntmps111
  go_wp2_with fail
  refine (callsIn_wide.1 (spAppend_in Fence.wide 3 trivial trivial rfl (by decide) Bs a c zs hlen w hBs hc hI)).mono ?_
  rintro e w1 ⟨v, rfl, hrow, hB⟩
  obtain ⟨a1, c1, rfl⟩ := own_slice hrow
  have HR := Lib.hid (And.intro hrow hB)
  clear hrow hB
  go_wp2
  go_ret
  exact ⟨_, rfl, a1, _, c1, rfl, ⟨HR.out.1, hlen⟩, HR.out.2⟩

set_option maxRecDepth 100000 in
theorem sortedSp_any (Bs : Nat) (a : Option Addr) (c : Nat) (zs : List SpanV) (hlen : zs.length ≤ 12) (w : World) (hBs : Bs < w.heap.size)
    (hc : w.cell? ⟨Bs, 0, none⟩ = some (.slice a zs.length c)) (hI : SpAt w.heap.size w a c zs) :
    Calls Tryz.prog 83 #[.func (.func 113) #[] #[.pointer (some ⟨Bs, 0, none⟩)], .func (.func 85) #[] #[]] w fun e w' => ∃ v, e = .returned v ∧ ∃ ys, ys.Perm zs ∧ upS ys ∧ NewG laySp 60 w w' ys v := by
  go_enter Tryz.func83, Tryz.ntmps83
  go_wp2_with fail
  refine (collectSp_any Bs a c zs (by omega) w hBs hc hI).mono ?_
  rintro e w1 ⟨v, rfl, a1, n1, c1, rfl, ho, hx⟩
  have hl := ho.rd.len
  subst hl
  rcases own_addr ho.1 with rfl | ⟨g, rfl⟩
  · have hz : zs = [] := ho.rd.isNone.2
    subst hz
    have hc0 : c1 = 0 := by
      rcases ho.1.2 with ⟨e, _⟩ | ⟨g, cap, cur, e, _⟩
      · cases e; rfl
      · cases e
    subst hc0
    have HO := Lib.hid (And.intro ho hx)
    clear ho hx
    simp only [List.length_nil]
    go_wp2_with fail
    refine (sortFuncNil_any _).mono ?_
    rintro e w2 ⟨rfl, rfl⟩
    go_wp2
    go_ret
    exact ⟨_, rfl, [], List.Perm.refl _, List.Pairwise.nil, none, 0, 0, rfl, HO.out.1, HO.out.2⟩
  · have HO := Lib.hid (And.intro ho hx)
    clear ho hx
    go_wp2_with fail
    refine (sortFuncSp_any _ _ _ _ _ HO.out.1 hlen).mono ?_
    rintro e w2 ⟨rfl, ys, hp, hu, ho2, hg2⟩
    have hx2 : Ext w w2 := HO.out.2.grown hg2 (by rintro k e; cases e; exact (HO.out.1.1.lt g rfl).1)
    have HS := Lib.hid (And.intro hp (And.intro hu (And.intro ho2 hx2)))
    clear hp hu ho2 hg2 hx2
    go_wp2
    go_ret
    exact ⟨_, rfl, ys, HS.out.1, HS.out.2.1, _, _, _, rfl, by simpa using HS.out.2.2.1, HS.out.2.2.2⟩

end Go.Proofs.YteencdgaldhanaaGreatDoor
