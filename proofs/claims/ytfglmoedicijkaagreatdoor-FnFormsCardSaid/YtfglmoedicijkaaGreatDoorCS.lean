/-
  CasesOf on both sides.
-/
import Derived.Test.YtfglmoedicijkaaGreatDoorFO
import Derived.Test.YtfglmoedicijkaaGreatDoorSJ
namespace Go.Proofs.YtfglmoedicijkaaGreatDoor
open Go.RowKit

def caseP (b t : ByteArray) (x : EndingV) : Bool := chgB b x.old x.new && ((chgV b x.old x.new).toList == t.toList)
def csB (xs : List EndingV) (b t : ByteArray) : Bool := tabB xs t && wordB b
def csR (xs : List EndingV) (b t : ByteArray) : List Int := sortI (pickL (caseP b t) EndingV.kase xs xs.length)
def csL (xs : List EndingV) (b t : ByteArray) : List Int := if csB xs b t = true then csR xs b t else []
def csC (xs : List EndingV) (b t : ByteArray) : Int := if csB xs b t = true then 0 else 1
theorem cs_no {xs : List EndingV} {b t : ByteArray} (h : csB xs b t = false) : csL xs b t = [] ∧ csC xs b t = 1 := by rw [csL, csC, h]; exact ⟨rfl, rfl⟩
theorem cs_yes {xs : List EndingV} {b t : ByteArray} (h : csB xs b t = true) : csL xs b t = csR xs b t ∧ csC xs b t = 0 := by rw [csL, csC, if_pos h, if_pos h]; exact ⟨rfl, rfl⟩
theorem cs_bad {xs : List EndingV} {b t : ByteArray} (h : tableE xs = false ∨ wordsB [b, t] = false) : csB xs b t = false := by
  rw [csB, tabB]
  rcases h with h | h
  · simp [h]
  · cases h1 : wordB b
    · simp
    · cases h2 : wordB t
      · simp
      · simp [wordsB, h1, h2] at h
theorem cs_good {xs : List EndingV} {b t : ByteArray} (h : tableE xs = true) (h2 : wordsB [b, t] = true) : csB xs b t = true := by
  have h1 : wordB b = true ∧ wordB t = true := by simpa [wordsB] using h2
  rw [csB, tabB, h, h1.1, h1.2]; rfl
/-- What the reference finds among the first k. -/
def caseN (xs : List EndingV) (b t : ByteArray) (k : Nat) (m : Int) : Bool := (xs.take k).any fun x => caseP b t x && (x.kase == m)
theorem caseN_zero (xs : List EndingV) (b t : ByteArray) (m : Int) : caseN xs b t 0 m = false := by simp [caseN]
theorem caseN_step {xs : List EndingV} {b t : ByteArray} {k : Nat} {x : EndingV} {m : Int} (hk : xs[k]? = some x) : caseN xs b t (k + 1) m = (caseN xs b t k m || (caseP b t x && (x.kase == m))) := by
  obtain ⟨hlt, rfl⟩ := List.getElem?_eq_some_iff.1 hk
  rw [caseN, caseN, List.take_succ_eq_append_getElem hlt, List.any_append]
  simp
def casesJ (xs : List EndingV) (b t : ByteArray) (j : Nat) : List Int := pickL (fun i : Nat => caseN xs b t xs.length ((i : Int) + 1)) (fun i : Nat => (i : Int) + 1) (List.range 9) j
theorem table_kase {xs : List EndingV} (h : tableE xs = true) : ∀ x ∈ xs, 1 ≤ x.kase ∧ x.kase ≤ 9 := fun x hx => by
  rw [tableE, Bool.and_eq_true, firstsE, List.all_eq_true] at h
  obtain ⟨j, hj, rfl⟩ := List.getElem_of_mem hx
  have := h.1 j (List.mem_range.2 hj)
  rw [Bool.and_eq_true, endB, nthEnding_eq hj] at this
  have h2 := this.1
  simp only [Bool.and_eq_true, inB, decide_eq_true_eq] at h2
  exact h2.2.2.2
theorem cases_eq {xs : List EndingV} {b t : ByteArray} (h : tableE xs = true) : csR xs b t = casesJ xs b t 9 := by
  refine sortI_eq ?_ fun z => ?_
  · rw [casesJ, pickL, List.pairwise_map]
    refine List.Pairwise.imp ?_ ((List.Pairwise.sublist (List.take_sublist _ _) List.pairwise_lt_range).filter _)
    intro i j hij
    omega
  · rw [casesJ, pickL, pickL, List.mem_map, List.mem_map]
    constructor
    · rintro ⟨i, hi, rfl⟩
      have h2 := (List.mem_filter.1 hi).2
      rw [caseN, List.any_eq_true] at h2
      obtain ⟨y, hy, hc⟩ := h2
      rw [Bool.and_eq_true, beq_iff_eq] at hc
      exact ⟨y, List.mem_filter.2 ⟨by rw [List.take_of_length_le (Nat.le_refl _)] at hy ⊢; exact hy, hc.1⟩, hc.2⟩
    · rintro ⟨y, hy, rfl⟩
      obtain ⟨hy, hc⟩ := List.mem_filter.1 hy
      have hm : y ∈ xs := List.mem_of_mem_take hy
      obtain ⟨k0, k1⟩ := table_kase h y hm
      refine ⟨(y.kase - 1).toNat, List.mem_filter.2 ⟨?_, ?_⟩, by omega⟩
      · rw [List.take_of_length_le (by simp)]
        exact List.mem_range.2 (by omega)
      · rw [caseN, List.any_eq_true]
        exact ⟨y, hy, by rw [hc, Bool.true_and, beq_iff_eq]; omega⟩
theorem RdS.two (w : World) (x y : ByteArray) (hx : x.size ≤ 1073741824) (hy : y.size ≤ 1073741824) (e : TypeId) : RdS (w.alloc (.cells #[.string x, .string y] e)) (some ⟨w.heap.size, 0, none⟩) 2 [x, y] := by
  refine ⟨⟨rfl, by decide, .inr ⟨_, _, rfl, by simp, fun j u hu => ?_⟩⟩, fun s hs => ?_⟩
  · match j, hu with
    | 0, hu => simpa [layS, World.cell?_alloc_at] using hu
    | 1, hu => simpa [layS, World.cell?_alloc_at] using hu
  · simp only [List.mem_cons, List.mem_nil_iff, or_false] at hs
    rcases hs with rfl | rfl
    · exact hx
    · exact hy

set_option maxRecDepth 100000 in
set_option maxHeartbeats 2000000 in
theorem implCasesOf_any (a : Option Addr) (n c : Nat) (s t : ByteArray) (xs : List EndingV) (w : World) (hr : RdEnding w a n xs) (hcap : n ≤ c) (hs : s.size ≤ 1073741824) (hs2 : t.size ≤ 1073741824) (hn : n ≤ 1048576) :
    Calls Tryz.prog 31 #[.slice a n c, .string s, .string t] w (RetLC w (csL xs s t) (csC xs s t)) := by
  have hln := hr.len
  cases hT : tableE xs
  · have HZ := Lib.hid (And.intro hT (cs_no (cs_bad (b := s) (t := t) (.inl hT))))
    clear hT
    go_enter Tryz.func31, Tryz.ntmps31
    go_wp2_with fail
    refine (implIsEndingTable_any _ _ _ _ _ hr hcap).mono ?_
    rintro e w1 ⟨rfl, e1⟩
    rw [HZ.out.1]
    go_wp2
    go_ret2
    rw [HZ.out.2.1, HZ.out.2.2]
    exact ⟨_, rfl, NewI.nil _ _ e1⟩
  cases hW : wordsB [s, t]
  · have HZ := Lib.hid (And.intro hT (And.intro hW (cs_no (cs_bad (xs := xs) (.inr hW)))))
    clear hT hW
    go_enter Tryz.func31, Tryz.ntmps31
    go_wp2_with fail
    refine (implIsEndingTable_any _ _ _ _ _ hr hcap).mono ?_
    rintro e w1 ⟨rfl, e1⟩
    rw [HZ.out.1]
    go_wp2_with fail
    refine (areWords_any _ _ _ _ _ (RdS.two _ s t hs hs2 _)).mono ?_
    rintro e w2 ⟨rfl, e2⟩
    rw [HZ.out.2.1]
    go_wp2
    go_ret2
    rw [HZ.out.2.2.1, HZ.out.2.2.2]
    exact ⟨_, rfl, NewI.nil _ _ ((e1.alloc _).trans e2)⟩
  · have HZ := Lib.hid (And.intro hT (And.intro hW (cs_yes (cs_good hT hW))))
    clear hT hW
    go_enter Tryz.func31, Tryz.ntmps31
    go_wp2_with fail
    refine (implIsEndingTable_any _ _ _ _ _ hr hcap).mono ?_
    rintro e w1 ⟨rfl, e1⟩
    rw [HZ.out.1]
    go_wp2_with fail
    refine (areWords_any _ _ _ _ _ (RdS.two _ s t hs hs2 _)).mono ?_
    rintro e w2 ⟨rfl, e2⟩
    rw [HZ.out.2.1]
    have e0 := (e1.alloc (.cells #[.string s, .string t] 9)).trans e2
    clear e1 e2
    go_wp2
    go_loopw [8, 25] (fun v i wr => ∃ (k : Nat) (l : List Int) (a1 : Option Addr) (c1 : Nat), k ≤ n ∧ i = .int .i64 k ∧ v = .slice a1 l.length c1 ∧ l = pickL (caseP s t) EndingV.kase xs k ∧ OwnI wr w.heap.size a1 l.length c1 l ∧ Ext w wr) (fun _ i _ => n - (intOf i).toNat)
    case atStart => exact ⟨0, [], _, _, Nat.zero_le _, rfl, rfl, (pick_zero _ _ _).symm, ⟨OwnI.isNil _ _, by decide⟩, e0⟩
    case round =>
      obtain ⟨k, l, a1, c1, hk, rfl, rfl, hl, ho, hx⟩ := hrel
      have HL := Lib.hid hl
      have hll : l.length ≤ k := by rw [hl]; exact pick_len _ _ _ _
      clear hl
      by_cases hlt : k < n
      · obtain ⟨b, o, rfl, hbl, hA⟩ := (hr.ext hx).at (by omega)
        obtain ⟨hc0, hc1, hc2⟩ := hA k hlt
        have hki : (k : Int) < n := by omega
        have hok := hr.ok hlt
        have hxA := hx.alloc (.cells #[.string (nthEnding xs k).old, .string (nthEnding xs k).new, .int .i64 (nthEnding xs k).kase] 75)
        have hoA := ho.ext ((Ext.refl _).alloc (.cells #[.string (nthEnding xs k).old, .string (nthEnding xs k).new, .int .i64 (nthEnding xs k).kase] 75))
        have hget : xs[k]? = some (nthEnding xs k) := by rw [nthEnding_eq (by omega)]; exact List.getElem?_eq_getElem (by omega)
        clear hA
        cases hp : chgB s (nthEnding xs k).old (nthEnding xs k).new
        · have HS := Lib.hid (And.intro (pick_out (p := caseP s t) (f := EndingV.kase) hget (by rw [caseP, hp]; rfl)) hp)
          clear hp hget
          go_wp2_with fail
          refine (exchanged_any _ _ _ _ hs hok.2).mono ?_
          rintro e w1 ⟨rfl, e1⟩
          rw [HS.out.2]
          go_wp2
          go_roundw
          case rel => exact ⟨k + 1, l, a1, c1, by omega, by go_num, rfl, by rw [HS.out.1, ← HL.out], hoA.ext e1, hxA.trans e1⟩
          case measure => simp [intOf]; omega
        · cases hq : ((chgV s (nthEnding xs k).old (nthEnding xs k).new).toList == t.toList)
          · have HS := Lib.hid (And.intro (pick_out (p := caseP s t) (f := EndingV.kase) hget (by rw [caseP, hq, Bool.and_false])) hp)
            clear hp hget
            go_wp2_with fail
            refine (exchanged_any _ _ _ _ hs hok.2).mono ?_
            rintro e w1 ⟨rfl, e1⟩
            rw [HS.out.2]
            go_wp2
            go_roundw
            case rel => exact ⟨k + 1, l, a1, c1, by omega, by go_num, rfl, by rw [HS.out.1, ← HL.out], hoA.ext e1, hxA.trans e1⟩
            case measure => simp [intOf]; omega
          · have HS := Lib.hid (And.intro (pick_in (p := caseP s t) (f := EndingV.kase) hget (by rw [caseP, hp, hq]; rfl)) hp)
            clear hp hget
            go_wp2_with fail
            refine (exchanged_any _ _ _ _ hs hok.2).mono ?_
            rintro e w1 ⟨rfl, e1⟩
            rw [HS.out.2]
            have b2 : _ = some (Value.int .i64 (nthEnding xs k).kase) := box_kept e1 2
            have hoE := hoA.ext e1
            have hxE := hxA.trans e1
            clear e1 hoA hxA ho hx
            go_wp2_with (first | (at_builtin; refine wpList_appI rfl _ _ rfl w.heap.size _ l.length l rfl (hoE.alloc _) _ 1 _ [(nthEnding xs k).kase] rfl (RdI.new1 _ _ _) (by omega) (hxE.le_alloc _) ?_; intro a2 c2 w2 hown hgrow; have hb2 := hxE.app hoE (Nat.le_refl _) hgrow; have HO := Lib.hid hown; clear hown))
            go_roundw
            case rel => exact ⟨k + 1, l ++ [(nthEnding xs k).kase], a2, c2, by omega, by go_num, by simp, by rw [HS.out.1, ← HL.out], by simpa using HO.out, hb2⟩
            case measure => simp [intOf]; omega
      · obtain rfl : k = n := by omega
        rcases own_addr ho.1 with rfl | ⟨g, rfl⟩
        · obtain ⟨h0, rfl⟩ := ho.rd.isNone
          have hc0 : c1 = 0 := by
            rcases ho.1.2 with ⟨h1, _⟩ | ⟨g, cap, cur, hv, _⟩
            · cases h1; rfl
            · cases hv
          subst hc0
          simp only [List.length_nil]
          go_wp2_with fail
          refine (Tryz.slices_Sort_i64_none none 0 _).mono ?_
          rintro e w1 ⟨rfl, rfl⟩
          go_wp2_with fail
          refine (Tryz.slices_Compact_i64_empty none 0 _).mono ?_
          rintro e w2 ⟨rfl, rfl⟩
          go_wp2
          go_ret2
          rw [HZ.out.2.2.1, HZ.out.2.2.2, csR, hln, ← HL.out, show sortI [] = [] by simp [sortI, Lib.compact, Lib.compactUpTo]]
          exact ⟨_, rfl, NewI.nil _ _ hx⟩
        · go_wp2_with fail
          refine (sortI64_any _ _ _ _ _ _ ho).mono ?_
          rintro e w1 ⟨rfl, o1, b1⟩
          go_wp2_with fail
          refine (compactI64_any _ _ _ _ _ _ o1).mono ?_
          rintro e w2 ⟨rfl, o2, b2⟩
          go_wp2
          go_ret2
          rw [HZ.out.2.2.1, HZ.out.2.2.2, csR, hln, ← HL.out]
          exact ⟨_, rfl, _, _, _, rfl, o2, Below.trans hx (Below.trans b1 b2)⟩

set_option maxRecDepth 100000 in
set_option maxHeartbeats 2000000 in
theorem specCasesOf_any (a : Option Addr) (n c : Nat) (s t : ByteArray) (xs : List EndingV) (w : World) (hr : RdEnding w a n xs) (hs : s.size ≤ 1073741824) (hs2 : t.size ≤ 1073741824) (hn : n ≤ 1048576) :
    Calls Tryz.prog 32 #[.slice a n c, .string s, .string t] w (RetLC w (csL xs s t) (csC xs s t)) := by
  have hln := hr.len
  cases hT : tabB xs t
  · have HZ := Lib.hid (And.intro (tabC_no hT) (cs_no (xs := xs) (b := s) (t := t) (by rw [csB, hT]; rfl)))
    clear hT
    go_enter Tryz.func32, Tryz.ntmps32
    go_wp2_with fail
    refine (l08Code_any _ _ _ _ _ _ hr hs2).mono ?_
    rintro e w1 ⟨rfl, e1⟩
    rw [HZ.out.1]
    go_wp2
    go_ret2
    rw [HZ.out.2.1, HZ.out.2.2]
    exact ⟨_, rfl, NewI.nil _ _ e1⟩
  cases hW : wordB s
  · have HZ := Lib.hid (And.intro (tabC_yes hT) (And.intro hW (cs_no (xs := xs) (b := s) (t := t) (by rw [csB, hW, Bool.and_false]))))
    clear hT hW
    go_enter Tryz.func32, Tryz.ntmps32
    go_wp2_with fail
    refine (l08Code_any _ _ _ _ _ _ hr hs2).mono ?_
    rintro e w1 ⟨rfl, e1⟩
    rw [HZ.out.1]
    go_wp2_with fail
    refine (specIsWord_any _ _ (by omega)).mono ?_
    rintro e w2 ⟨rfl, rfl⟩
    rw [HZ.out.2.1]
    go_wp2
    go_ret2
    rw [HZ.out.2.2.1, HZ.out.2.2.2]
    exact ⟨_, rfl, NewI.nil _ _ e1⟩
  · have hTE : tableE xs = true := by rw [tabB, Bool.and_eq_true] at hT; exact hT.1
    have HZ := Lib.hid (And.intro (tabC_yes hT) (And.intro hW (And.intro (cs_yes (xs := xs) (b := s) (t := t) (by rw [csB, hT, hW]; rfl)) (cases_eq (b := s) (t := t) hTE))))
    clear hT hW hTE
    go_enter Tryz.func32, Tryz.ntmps32
    go_wp2_with fail
    refine (l08Code_any _ _ _ _ _ _ hr hs2).mono ?_
    rintro e w1 ⟨rfl, e1⟩
    rw [HZ.out.1]
    go_wp2_with fail
    refine (specIsWord_any _ _ (by omega)).mono ?_
    rintro e w2 ⟨rfl, rfl⟩
    rw [HZ.out.2.1]
    go_wp2
    go_loopw [9, 10] (fun v i wr => ∃ (j : Nat) (l : List Int) (a1 : Option Addr) (c1 : Nat), j ≤ 9 ∧ i = .int .i64 ((j : Int) + 1) ∧ v = .slice a1 l.length c1 ∧ l = casesJ xs s t j ∧ OwnI wr w.heap.size a1 l.length c1 l ∧ Ext w wr) (fun _ i _ => 10 - (intOf i).toNat)
    case atStart => exact ⟨0, [], _, _, by decide, rfl, rfl, (pick_zero _ _ _).symm, ⟨OwnI.lit0 _ e1.size, by decide⟩, e1.alloc _⟩
    case round =>
      obtain ⟨j, l, a1, c1, hj, rfl, rfl, hl, ho, hx⟩ := hrel
      have HL := Lib.hid hl
      have hll : l.length ≤ j := by rw [hl]; exact pick_len _ _ _ _
      clear hl
      by_cases hlt : j < 9
      · have hji : (j : Int) + 1 ≤ 9 := by omega
        go_wp2
        go_loopw [11, 12] (fun u i wr2 => ∃ k : Nat, k ≤ n ∧ i = .int .i64 k ∧ u = .bool (caseN xs s t k ((j : Int) + 1)) ∧ Ext wr wr2) (fun _ i _ => n - (intOf i).toNat)
        case atStart => exact ⟨0, Nat.zero_le _, rfl, by rw [caseN_zero], Ext.refl _⟩
        case round =>
          obtain ⟨k, hk, rfl, rfl, hx2⟩ := hrel
          by_cases hlt2 : k < n
          · obtain ⟨b, o, rfl, hbl, hA⟩ := (hr.ext (hx.trans hx2)).at (by omega)
            obtain ⟨hc0, hc1, hc2⟩ := hA k hlt2
            have hki : (k : Int) < n := by omega
            have hok := hr.ok hlt2
            have hget : xs[k]? = some (nthEnding xs k) := by rw [nthEnding_eq (by omega)]; exact List.getElem?_eq_getElem (by omega)
            clear hA
            cases hF : caseN xs s t k ((j : Int) + 1)
            · cases hp : chgB s (nthEnding xs k).old (nthEnding xs k).new
              · have HS := Lib.hid (show caseN xs s t (k + 1) ((j : Int) + 1) = false by rw [caseN_step hget, hF, caseP, hp]; rfl)
                have HP := Lib.hid hp
                clear hp hget hF
                go_wp2
                go_quiet (first | (go_at_call 61; exact (l08Change_any _ _ _ _ hs hok.1 hok.2).mono fun _ _ h => ⟨h.1, ⟨_, h.2.symm⟩⟩))
                rw [HP.out]
                go_wp2
                go_roundw
                case rel => exact ⟨k + 1, by omega, by go_num, by rw [HS.out], hx2.drewN _⟩
                case measure => simp [intOf]; omega
              · have hv := (chg_V hp).1
                cases hq : ((chgV s (nthEnding xs k).old (nthEnding xs k).new).toList == t.toList)
                · have HS := Lib.hid (show caseN xs s t (k + 1) ((j : Int) + 1) = false by rw [caseN_step hget, hF, caseP, hq, Bool.and_false, Bool.false_and]; rfl)
                  have HP := Lib.hid (And.intro hp hv)
                  clear hp hget hF hv
                  go_wp2
                  go_quiet (first | (go_at_call 61; exact (l08Change_any _ _ _ _ hs hok.1 hok.2).mono fun _ _ h => ⟨h.1, ⟨_, h.2.symm⟩⟩))
                  rw [HP.out.1, HP.out.2]
                  go_wp2
                  go_roundw
                  case rel => exact ⟨k + 1, by omega, by go_num, by rw [HS.out], hx2.drewN _⟩
                  case measure => simp [intOf]; omega
                · cases hm : ((nthEnding xs k).kase == (j : Int) + 1)
                  · have HS := Lib.hid (show caseN xs s t (k + 1) ((j : Int) + 1) = false by rw [caseN_step hget, hF, hm, Bool.and_false]; rfl)
                    have hm2 : ¬ (nthEnding xs k).kase = (j : Int) + 1 := by simpa using hm
                    have HP := Lib.hid (And.intro hp hv)
                    clear hp hget hF hv
                    go_wp2
                    go_quiet (first | (go_at_call 61; exact (l08Change_any _ _ _ _ hs hok.1 hok.2).mono fun _ _ h => ⟨h.1, ⟨_, h.2.symm⟩⟩))
                    rw [HP.out.1, HP.out.2]
                    go_wp2
                    go_roundw
                    case rel => exact ⟨k + 1, by omega, by go_num, by rw [HS.out], hx2.drewN _⟩
                    case measure => simp [intOf]; omega
                  · have HS := Lib.hid (show caseN xs s t (k + 1) ((j : Int) + 1) = true by rw [caseN_step hget, hF, caseP, hp, hq, hm]; rfl)
                    have hm2 : (nthEnding xs k).kase = (j : Int) + 1 := by simpa using hm
                    have HP := Lib.hid (And.intro hp hv)
                    have HM := Lib.hid hm2
                    clear hp hget hF hv hm2
                    go_wp2
                    go_quiet (first | (go_at_call 61; exact (l08Change_any _ _ _ _ hs hok.1 hok.2).mono fun _ _ h => ⟨h.1, ⟨_, h.2.symm⟩⟩))
                    rw [HP.out.1, HP.out.2]
                    go_wp2
                    go_roundw
                    case rel => exact ⟨k + 1, by omega, by go_num, by rw [HS.out], hx2.drewN _⟩
                    case measure => simp [intOf]; omega
            · have HS := Lib.hid (show caseN xs s t (k + 1) ((j : Int) + 1) = true by rw [caseN_step hget, hF]; rfl)
              clear hget hF
              go_wp2
              go_quiet (first | (go_at_call 61; exact (l08Change_any _ _ _ _ hs hok.1 hok.2).mono fun _ _ h => ⟨h.1, ⟨_, h.2.symm⟩⟩))
              go_wp2
              go_roundw
              case rel => exact ⟨k + 1, by omega, by go_num, by rw [HS.out], hx2.drewN _⟩
              case measure => simp [intOf]; omega
          · obtain rfl : k = n := by omega
            cases hF : caseN xs s t k ((j : Int) + 1)
            · have HS := Lib.hid (pick_out (p := fun i : Nat => caseN xs s t xs.length ((i : Int) + 1)) (f := fun i : Nat => (i : Int) + 1) (xs := List.range 9) (k := j) (x := j) (List.getElem?_range hlt) (by rw [hln]; exact hF))
              clear hF
              go_wp2
              go_roundw
              case rel => exact ⟨j + 1, l, a1, c1, by omega, by go_num, rfl, by rw [casesJ, HS.out, ← casesJ, ← HL.out], ho.ext hx2, hx.trans hx2⟩
              case measure => simp [intOf]; omega
            · have HS := Lib.hid (pick_in (p := fun i : Nat => caseN xs s t xs.length ((i : Int) + 1)) (f := fun i : Nat => (i : Int) + 1) (xs := List.range 9) (k := j) (x := j) (List.getElem?_range hlt) (by rw [hln]; exact hF))
              clear hF
              have hoE := ho.ext hx2
              have hxE := hx.trans hx2
              clear ho hx hx2
              go_wp2_with (first | (at_builtin; refine wpList_appI rfl _ _ rfl w.heap.size _ l.length l rfl (hoE.alloc _) _ 1 _ [(j : Int) + 1] rfl (RdI.new1 _ _ _) (by omega) (hxE.le_alloc _) ?_; intro a2 c2 w2 hown hgrow; have hb2 := hxE.app hoE (Nat.le_refl _) hgrow; have HO := Lib.hid hown; clear hown))
              go_roundw
              case rel => exact ⟨j + 1, l ++ [(j : Int) + 1], a2, c2, by omega, by go_num, by simp, by rw [casesJ, HS.out, ← casesJ, ← HL.out], by simpa using HO.out, hb2⟩
              case measure => simp [intOf]; omega
      · obtain rfl : j = 9 := by omega
        go_wp2
        go_ret2
        rw [HZ.out.2.2.1.1, HZ.out.2.2.1.2, HZ.out.2.2.2, ← HL.out]
        exact ⟨_, rfl, _, _, _, rfl, ho, hx⟩

end Go.Proofs.YtfglmoedicijkaaGreatDoor
