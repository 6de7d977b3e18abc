/-
  slices.DeleteFunc at the closure of ignored letters.
-/
import Derived.Test.YtdicjpkcgeofjaaGreatDoorSH
import Derived.Test.YtdicjpkcgeofjaaGreatDoorDT
namespace Go.Proofs.YtdicjpkcgeofjaaGreatDoor
open Go.RowKit

theorem dropI_none {ig zs : List Int} (h : idxP (hasI ig) zs < 0) : dropI ig zs = zs := by
  rw [dropI, List.filter_eq_self]
  intro x hx
  cases hh : hasI ig x
  · rfl
  · obtain ⟨k, hk, rfl⟩ := List.getElem_of_mem hx
    rw [idxP] at h
    cases hf : zs.findIdx? (hasI ig) with
    | none => rw [List.findIdx?_eq_none_iff] at hf; rw [hf _ hx] at hh; cases hh
    | some q => rw [hf] at h; simp at h; omega
theorem dropI_first {ig zs : List Int} {k : Nat} (h : idxP (hasI ig) zs = k) : k < zs.length ∧ dropI ig (zs.take (k + 1)) = zs.take k := by
  rw [idxP] at h
  cases hf : zs.findIdx? (hasI ig) with
  | none => rw [hf] at h; simp at h
  | some q =>
    rw [hf] at h
    have hqk : (q : Int) = k := by simpa using h
    obtain rfl : q = k := by omega
    rw [List.findIdx?_eq_some_iff_getElem] at hf
    obtain ⟨hk, h1, h2⟩ := hf
    refine ⟨hk, ?_⟩
    rw [drop_out hk (by rw [nth_eq hk]; exact h1), dropI, List.filter_eq_self]
    intro x hx
    obtain ⟨j, hj, rfl⟩ := List.getElem_of_mem hx
    rw [List.getElem_take]
    have := h2 j (by simp at hj; omega)
    simpa using this

theorem zeroI_run (w : World) : (zeroValue 2).run Tryz.prog w = .ok (.int .i64 0) w := by
  kernel_rfl

set_option maxRecDepth 100000 in
set_option maxHeartbeats 2000000 in
theorem deleteIgn_any (a : Option Addr) (n c B : Nat) (zs : List Int) (b : Nat) (x : Value) (a2 : Option Addr) (m c2 : Nat) (ig : List Int) (w w0 : World) (ho : OwnI w B a n c zs) (hx0 : Ext w0 w) (hB : w0.heap.size ≤ B) (h : HoldsX w0 b x (.slice a2 m c2)) (hr2 : RdI w0 a2 m ig) :
    Calls Tryz.prog 72 #[.slice a n c, .func (.func 74) #[] #[.pointer (some ⟨b, 0, none⟩)]] w fun e w' => e = .returned (.slice a (dropI ig zs).length c) ∧ OwnI w' B a (dropI ig zs).length c (dropI ig zs) ∧ Ext w0 w' := by
  have hm := ho.rd.le
  have hln := ho.rd.len
  go_enter Tryz.func72, Tryz.ntmps72
  by_cases hi : idxP (hasI ig) zs < 0
  · have hi1 : idxP (hasI ig) zs = -1 := by
      rw [idxP] at hi ⊢
      cases hf : zs.findIdx? (hasI ig) with
      | none => rfl
      | some q => rw [hf] at hi; simp at hi; omega
    have HZ := Lib.hid (And.intro hi1 (dropI_none hi))
    clear hi hi1
    go_wp2_with (go_at_call 104; refine (idxIgn_any _ _ _ _ _ _ _ _ _ _ _ ho.rd (h.ext hx0) (hr2.ext hx0)).mono ?_; rintro e w' ⟨rfl, rfl⟩; rw [HZ.out.1])
    go_ret
    rw [HZ.out.2, hln]
    exact ⟨rfl, ho, hx0⟩
  · obtain ⟨k0, hk0⟩ := Int.eq_ofNat_of_zero_le (by omega : 0 ≤ idxP (hasI ig) zs)
    obtain ⟨hlt0, hd0⟩ := dropI_first hk0
    have hk1 : ((k0 : Int) == -1) = false := beq_eq_false_iff_ne.2 (by omega)
    have HZ := Lib.hid (And.intro hk0 hd0)
    clear hi hk0 hd0
    go_wp2_with (go_at_call 104; refine (idxIgn_any _ _ _ _ _ _ _ _ _ _ _ ho.rd (h.ext hx0) (hr2.ext hx0)).mono ?_; rintro e w' ⟨rfl, rfl⟩; rw [HZ.out.1])
    go_loopw [5, 6] (fun i j wr => ∃ (p q : Nat) (ys : List Int), i = .int .i64 p ∧ j = .int .i64 q ∧ q ≤ n ∧ p < q ∧ ys.length = n ∧ ys.take p = dropI ig (zs.take q) ∧ ys.drop q = zs.drop q ∧ OwnI wr B a n c ys ∧ Ext w0 wr) (fun _ j _ => n - (intOf j).toNat)
    case atStart => exact ⟨k0, k0 + 1, zs, rfl, by go_num, by omega, by omega, hln, HZ.out.2.symm, rfl, ho, hx0⟩
    case round =>
      obtain ⟨p, q, ys, rfl, rfl, hq, hpq, hyl, ht, hd, hoy, hx⟩ := hrel
      by_cases hqn : q < n
      · have hqi : (q : Int) < n := by omega
        have hv : nth ys q = nth zs q := by
          rw [nth_eq (by omega), nth_eq (by omega)]
          have := congrArg (fun l => l[0]?) hd
          simp only [List.getElem?_drop, Nat.add_zero] at this
          rw [List.getElem?_eq_getElem (by omega), List.getElem?_eq_getElem (by omega)] at this
          exact Option.some.inj this
        obtain ⟨g, rfl, hgB, ⟨u, hu⟩, hfz, ho2⟩ := hoy.store2 (k := p) (by omega) (nth zs q)
        have hcq := hoy.rd.at
        obtain ⟨b0, o0, e0, hbl, hA⟩ := hoy.rd.at (by omega)
        cases e0
        have hc0 := hA q hqn
        rw [hv] at hc0
        simp only [Nat.zero_add] at hc0
        have hpi : (p : Int) < n := by omega
        clear hA hcq
        cases hh : hasI ig (nth zs q)
        · have HV := Lib.hid (And.intro hh (drop_in (zs := zs) (by omega) hh))
          clear hh
          go_wp2_with (first | (go_at_call 74; refine (lessClosure_any _ _ _ _ _ _ _ _ (h.ext hx) (hr2.ext hx)).mono ?_; rintro e w1 ⟨rfl, rfl⟩; rw [HV.out.1]))
          go_roundw
          case rel =>
            refine ⟨p + 1, q + 1, ys.set p (nth zs q), by go_num, by go_num, by omega, by omega, by simpa using hyl, ?_, ?_, ho2, hx.setCell (p := ⟨g, p, none⟩) (Nat.le_trans hB hgB) _⟩
            · rw [HV.out.2, ← ht, List.take_succ_eq_append_getElem (by simp; omega)]; simp [List.take_set_of_le]
            · rw [List.drop_set_of_lt (by omega)]
              have := congrArg List.tail hd
              simpa [List.tail_drop] using this
          case measure => simp [intOf]; omega
        · have HV := Lib.hid (And.intro hh (drop_out (zs := zs) (by omega) hh))
          clear hh
          go_wp2_with (first | (go_at_call 74; refine (lessClosure_any _ _ _ _ _ _ _ _ (h.ext hx) (hr2.ext hx)).mono ?_; rintro e w1 ⟨rfl, rfl⟩; rw [HV.out.1]))
          go_roundw
          case rel =>
            refine ⟨p, q + 1, ys, rfl, by go_num, by omega, by omega, hyl, by rw [HV.out.2, ht], ?_, hoy, hx⟩
            have := congrArg List.tail hd
            simpa [List.tail_drop] using this
          case measure => simp [intOf]; omega
      · obtain rfl : q = n := by omega
        have hpe : (dropI ig zs).length = p := by
          have := congrArg List.length ht
          rw [List.take_of_length_le (l := zs) (by omega)] at this
          rw [← this, List.length_take]; omega
        have hte : ys.take p = dropI ig zs := by rw [ht, List.take_of_length_le (by omega)]
        obtain ⟨g, rfl⟩ : ∃ g, a = some ⟨g, 0, none⟩ := by
          rcases own_addr hoy.1 with rfl | hg
          · have := hoy.rd.isNone.1; omega
          · exact hg
        have hcap : q ≤ c := by
          rcases hoy.1.2 with ⟨h1, _⟩ | ⟨g', cap, cur, hv, _, _, hcc, _⟩
          · cases h1
          · cases hv; exact hcc
        have hgB : B ≤ g := (hoy.1.lt g rfl).1
        obtain ⟨k1, k2⟩ := own_setCells (List.replicate (q - p) (Value.int .i64 0)) (p * 1) wr _ hoy.1 (by simp; omega)
        have hcl : ∀ ty, (Builtin.clear_ #[25] ty #[.slice (some ⟨g, p, none⟩) (q - p) (c - p)]).run Tryz.prog wr = .ok (.tuple #[]) (wr.setCells g p (List.replicate (q - p) (Value.int .i64 0))) := fun ty =>
          Lib.run_clear_slice wr 25 2 ty _ Tryz.underlying25 zeroI_run rfl rfl g p _ _ (by omega) (fun j hj => by
            obtain ⟨u, hu⟩ := own_old hoy.1 (p + j) (by omega)
            rw [hu]; rfl) (fun j hj => hoy.1.frozenAt _)
        have hcut := own_cut k1 (show p ≤ q by omega)
        have hrow : ((ys.map (Value.int .i64)).take (p * 1) ++ List.replicate (q - p) (Value.int .i64 0) ++ (ys.map (Value.int .i64)).drop (p * 1 + (List.replicate (q - p) (Value.int .i64 0)).length)).take (p * 1) = (dropI ig zs).map (Value.int .i64) := by
          rw [← hte, Nat.mul_one, List.append_assoc, List.take_append_of_le_length (by simp; omega), ← List.map_take, List.take_of_length_le (by simp only [List.length_map, List.length_take]; omega)]
        rw [hrow, Nat.mul_one] at hcut
        rw [Nat.mul_one] at k2
        have HR := Lib.hid (And.intro (show OwnI (wr.setCells g p (List.replicate (q - p) (Value.int .i64 0))) B (some ⟨g, 0, none⟩) p c (dropI ig zs) from ⟨hcut, by omega⟩) (hx.grown k2 fun k e => by cases e; omega))
        have h1 : (p : Int) ≤ q := by omega
        have h2 : (q : Int) ≤ c := by omega
        have h3 : (p : Int) ≤ c := by omega
        have h4 : ¬ c = p := by omega
        have h5 : ¬ (c : Int) = p := by omega
        have h6 : (0 : Int) ≤ p := by omega
        have h7 : ¬ (q : Int) < q := by omega
        clear hcut hrow k1 k2 hte
        go_wp2
        go_ret
        exact ⟨rfl, HR.out.1, HR.out.2⟩

end Go.Proofs.YtdicjpkcgeofjaaGreatDoor
