/-
  EndLinks on both sides.
-/
import Derived.Test.YtgbfihjimbpgnaaDoorLM
namespace Go.Proofs.YtgbfihjimbpgnaaDoor
open Go.RowKit

/-- A list of links and a code. -/
def RetLinkC (w : World) (xs : List LinkV) (code : Int) (e : Ending) (w' : World) : Prop := ∃ v, e = .returned (.tuple #[v, .int .i64 code]) ∧ ∃ a n c, v = .slice a n c ∧ n ≤ 1048576 ∧ OwnLink w' w.heap.size a n c xs ∧ Ext w w'
theorem RetLinkC.nil {w : World} {code : Int} {w' : World} (h : Ext w w') : RetLinkC w [] code (.returned (.tuple #[.slice none 0 0, .int .i64 code])) w' := ⟨_, rfl, none, 0, 0, rfl, by decide, ⟨OwnG.isNil _ _ _ _, by simp⟩, h⟩
def endOne (s : ByteArray) (y : Int) (x : LinkV) : LinkV := if x.child = s ∨ x.parent = s then ⟨x.child, x.parent, x.from_, min x.to_ (y - 1)⟩ else x
def endL (xs : List LinkV) (s : ByteArray) (y : Int) : List LinkV := (xs.map (endOne s y)).filter fun x => decide (x.from_ ≤ x.to_)
theorem endL_step {xs : List LinkV} {s : ByteArray} {y : Int} {k : Nat} (hk : k < xs.length) : endL (xs.take (k + 1)) s y = endL (xs.take k) s y ++ (if (endOne s y (nthLink xs k)).from_ ≤ (endOne s y (nthLink xs k)).to_ then [endOne s y (nthLink xs k)] else []) := by
  rw [List.take_succ_eq_append_getElem hk, endL, endL, List.map_append, List.filter_append, ← nthLink_eq hk]
  by_cases h : (endOne s y (nthLink xs k)).from_ ≤ (endOne s y (nthLink xs k)).to_ <;> simp [h]
theorem endL_len (xs : List LinkV) (s : ByteArray) (y : Int) : (endL xs s y).length ≤ xs.length := by
  rw [endL]
  exact Nat.le_trans (List.length_filter_le _ _) (by simp)
theorem endOne_ok {x : LinkV} (s : ByteArray) (y : Int) (h : okLink x) : okLink (endOne s y x) := by
  rw [endOne]
  split
  · exact h
  · exact h
theorem endL_ok {xs : List LinkV} (s : ByteArray) (y : Int) (h : ∀ x ∈ xs, okLink x) : ∀ x ∈ endL xs s y, okLink x := fun x hx => by
  rw [endL, List.mem_filter] at hx
  obtain ⟨z, hz, rfl⟩ := List.mem_map.1 hx.1
  exact endOne_ok s y (h z hz)
theorem end_hit {x : LinkV} {s : ByteArray} {y : Int} (h : x.child = s ∨ x.parent = s) : endOne s y x = ⟨x.child, x.parent, x.from_, min x.to_ (y - 1)⟩ := if_pos h
theorem end_miss {x : LinkV} {s : ByteArray} {y : Int} (h : ¬ (x.child = s ∨ x.parent = s)) : endOne s y x = x := if_neg h

set_option maxRecDepth 100000 in
set_option maxHeartbeats 2000000 in
theorem endLinks_any (a : Option Addr) (n c : Nat) (s : ByteArray) (y : Int) (xs : List LinkV) (w : World) (hr : RdLink w a n xs) (hy : inB y (-3000) 3000 = true) (hn : n ≤ 1048577) :
    Calls Tryd.prog 56 #[.slice a n c, .string s, .int .i64 y] w fun e w' => ∃ v, e = .returned v ∧ NewLink w w' (endL xs s y) v := by
  have hln := hr.len
  have hyy := inB_at hy
  have q1 : IntKind.i64.wrap (y - 1) = y - 1 := IntWalk.i64_in _ (by omega)
  go_enter Tryd.func56, Tryd.ntmps56
  go_wp2
  go_loopw [7, 12] (fun v i wr => ∃ (k : Nat) (l : List LinkV) (a1 : Option Addr) (c1 : Nat), k ≤ n ∧ i = .int .i64 k ∧ v = .slice a1 l.length c1 ∧ l = endL (xs.take k) s y ∧ OwnG layLink 43 wr w.heap.size a1 l.length c1 l ∧ Ext w wr) (fun _ i _ => n - (intOf i).toNat)
  case atStart => exact ⟨0, [], _, _, Nat.zero_le _, rfl, rfl, by simp [endL], OwnG.isNil _ _ _ _, Ext.refl _⟩
  case round =>
    obtain ⟨k, l, a1, c1, hk, rfl, rfl, hl, ho, hx⟩ := hrel
    have HL := Lib.hid hl
    have hll : l.length ≤ k := by
      have := endL_len (xs.take k) s y
      rw [← hl] at this
      simp only [List.length_take] at this
      omega
    clear hl
    by_cases hlt : k < n
    · obtain ⟨b, o, rfl, hbl, hA⟩ := (hr.ext hx).at (by omega)
      obtain ⟨hc0, hc1, hc2, hc3⟩ := hA k hlt
      have hki : (k : Int) < n := by omega
      have hst := endL_step (s := s) (y := y) (k := k) (xs := xs) (by omega)
      clear hA
      by_cases h1 : (nthLink xs k).child = s
      · have hb1 := beqS_eq h1
        have H1 := Lib.hid h1
        clear h1
        have hz : endOne s y (nthLink xs k) = ⟨(nthLink xs k).child, (nthLink xs k).parent, (nthLink xs k).from_, (min (nthLink xs k).to_ (y - 1))⟩ := end_hit (.inl H1.out)
        rw [hz] at hst
        simp only at hst
        have hxA := hx.alloc (.cells #[.string (nthLink xs k).child, .string (nthLink xs k).parent, .int .i64 (nthLink xs k).from_, .int .i64 (min (nthLink xs k).to_ (y - 1))] 43)
        have hoA := ho.alloc (.cells #[.string (nthLink xs k).child, .string (nthLink xs k).parent, .int .i64 (nthLink xs k).from_, .int .i64 (min (nthLink xs k).to_ (y - 1))] 43)
        by_cases hle : (nthLink xs k).from_ ≤ (min (nthLink xs k).to_ (y - 1))
        · rw [if_pos hle] at hst
          have hrd := RdG.new1 layLink (wr.alloc (.cells #[.string (nthLink xs k).child, .string (nthLink xs k).parent, .int .i64 (nthLink xs k).from_, .int .i64 (min (nthLink xs k).to_ (y - 1))] 43)) ⟨(nthLink xs k).child, (nthLink xs k).parent, (nthLink xs k).from_, (min (nthLink xs k).to_ (y - 1))⟩ #[.string (nthLink xs k).child, .string (nthLink xs k).parent, .int .i64 (nthLink xs k).from_, .int .i64 (min (nthLink xs k).to_ (y - 1))] rfl 43
          rw [World.size_alloc] at hrd
          have HS := Lib.hid hst
          clear hst hz
          go_wp2_with (first | (at_builtin; refine wpList_appG layLink rfl _ _ 25 43 rfl Tryd.underlying25 (.agg #[.string ⟨#[]⟩, .string ⟨#[]⟩, .int .i64 0, .int .i64 0]) 48 Tryd.info_Link rfl (by decide) w.heap.size _ l.length _ l rfl (hoA.alloc _) _ 1 _ [⟨(nthLink xs k).child, (nthLink xs k).parent, (nthLink xs k).from_, (min (nthLink xs k).to_ (y - 1))⟩] rfl hrd (by omega) (hxA.alloc _).size ?_; intro a2 c2 w2 hown hgrow; have hb2 := hxA.appG hoA (Nat.le_refl _) hgrow; have HO := Lib.hid hown; clear hown))
          go_roundw
          case rel => exact ⟨k + 1, l ++ [⟨(nthLink xs k).child, (nthLink xs k).parent, (nthLink xs k).from_, (min (nthLink xs k).to_ (y - 1))⟩], a2, c2, by omega, by go_num, by simp, by rw [HS.out, ← HL.out], by simpa using HO.out, hb2⟩
          case measure => simp [intOf]; omega
        · rw [if_neg hle, List.append_nil] at hst
          have HS := Lib.hid hst
          clear hst hz
          go_wp2
          go_roundw
          case rel => exact ⟨k + 1, l, a1, c1, by omega, by go_num, rfl, by rw [HS.out, ← HL.out], hoA, hxA⟩
          case measure => simp [intOf]; omega
      · have hb1 := beqS_ne h1
        by_cases h2 : (nthLink xs k).parent = s
        · have hb2x := beqS_eq h2
          have H1 := Lib.hid h2
          clear h1 h2
          have hz : endOne s y (nthLink xs k) = ⟨(nthLink xs k).child, (nthLink xs k).parent, (nthLink xs k).from_, (min (nthLink xs k).to_ (y - 1))⟩ := end_hit (.inr H1.out)
          rw [hz] at hst
          simp only at hst
          have hxA := hx.alloc (.cells #[.string (nthLink xs k).child, .string (nthLink xs k).parent, .int .i64 (nthLink xs k).from_, .int .i64 (min (nthLink xs k).to_ (y - 1))] 43)
          have hoA := ho.alloc (.cells #[.string (nthLink xs k).child, .string (nthLink xs k).parent, .int .i64 (nthLink xs k).from_, .int .i64 (min (nthLink xs k).to_ (y - 1))] 43)
          by_cases hle : (nthLink xs k).from_ ≤ (min (nthLink xs k).to_ (y - 1))
          · rw [if_pos hle] at hst
            have hrd := RdG.new1 layLink (wr.alloc (.cells #[.string (nthLink xs k).child, .string (nthLink xs k).parent, .int .i64 (nthLink xs k).from_, .int .i64 (min (nthLink xs k).to_ (y - 1))] 43)) ⟨(nthLink xs k).child, (nthLink xs k).parent, (nthLink xs k).from_, (min (nthLink xs k).to_ (y - 1))⟩ #[.string (nthLink xs k).child, .string (nthLink xs k).parent, .int .i64 (nthLink xs k).from_, .int .i64 (min (nthLink xs k).to_ (y - 1))] rfl 43
            rw [World.size_alloc] at hrd
            have HS := Lib.hid hst
            clear hst hz
            go_wp2_with (first | (at_builtin; refine wpList_appG layLink rfl _ _ 25 43 rfl Tryd.underlying25 (.agg #[.string ⟨#[]⟩, .string ⟨#[]⟩, .int .i64 0, .int .i64 0]) 48 Tryd.info_Link rfl (by decide) w.heap.size _ l.length _ l rfl (hoA.alloc _) _ 1 _ [⟨(nthLink xs k).child, (nthLink xs k).parent, (nthLink xs k).from_, (min (nthLink xs k).to_ (y - 1))⟩] rfl hrd (by omega) (hxA.alloc _).size ?_; intro a2 c2 w2 hown hgrow; have hb2 := hxA.appG hoA (Nat.le_refl _) hgrow; have HO := Lib.hid hown; clear hown))
            go_roundw
            case rel => exact ⟨k + 1, l ++ [⟨(nthLink xs k).child, (nthLink xs k).parent, (nthLink xs k).from_, (min (nthLink xs k).to_ (y - 1))⟩], a2, c2, by omega, by go_num, by simp, by rw [HS.out, ← HL.out], by simpa using HO.out, hb2⟩
            case measure => simp [intOf]; omega
          · rw [if_neg hle, List.append_nil] at hst
            have HS := Lib.hid hst
            clear hst hz
            go_wp2
            go_roundw
            case rel => exact ⟨k + 1, l, a1, c1, by omega, by go_num, rfl, by rw [HS.out, ← HL.out], hoA, hxA⟩
            case measure => simp [intOf]; omega
        · have hb2x := beqS_ne h2
          have H1 := Lib.hid (And.intro h1 h2)
          clear h1 h2
          have hz : endOne s y (nthLink xs k) = ⟨(nthLink xs k).child, (nthLink xs k).parent, (nthLink xs k).from_, (nthLink xs k).to_⟩ := end_miss (fun h => h.elim H1.out.1 H1.out.2)
          rw [hz] at hst
          simp only at hst
          have hxA := hx.alloc (.cells #[.string (nthLink xs k).child, .string (nthLink xs k).parent, .int .i64 (nthLink xs k).from_, .int .i64 (nthLink xs k).to_] 43)
          have hoA := ho.alloc (.cells #[.string (nthLink xs k).child, .string (nthLink xs k).parent, .int .i64 (nthLink xs k).from_, .int .i64 (nthLink xs k).to_] 43)
          by_cases hle : (nthLink xs k).from_ ≤ (nthLink xs k).to_
          · rw [if_pos hle] at hst
            have hrd := RdG.new1 layLink (wr.alloc (.cells #[.string (nthLink xs k).child, .string (nthLink xs k).parent, .int .i64 (nthLink xs k).from_, .int .i64 (nthLink xs k).to_] 43)) ⟨(nthLink xs k).child, (nthLink xs k).parent, (nthLink xs k).from_, (nthLink xs k).to_⟩ #[.string (nthLink xs k).child, .string (nthLink xs k).parent, .int .i64 (nthLink xs k).from_, .int .i64 (nthLink xs k).to_] rfl 43
            rw [World.size_alloc] at hrd
            have HS := Lib.hid hst
            clear hst hz
            go_wp2_with (first | (at_builtin; refine wpList_appG layLink rfl _ _ 25 43 rfl Tryd.underlying25 (.agg #[.string ⟨#[]⟩, .string ⟨#[]⟩, .int .i64 0, .int .i64 0]) 48 Tryd.info_Link rfl (by decide) w.heap.size _ l.length _ l rfl (hoA.alloc _) _ 1 _ [⟨(nthLink xs k).child, (nthLink xs k).parent, (nthLink xs k).from_, (nthLink xs k).to_⟩] rfl hrd (by omega) (hxA.alloc _).size ?_; intro a2 c2 w2 hown hgrow; have hb2 := hxA.appG hoA (Nat.le_refl _) hgrow; have HO := Lib.hid hown; clear hown))
            go_roundw
            case rel => exact ⟨k + 1, l ++ [⟨(nthLink xs k).child, (nthLink xs k).parent, (nthLink xs k).from_, (nthLink xs k).to_⟩], a2, c2, by omega, by go_num, by simp, by rw [HS.out, ← HL.out], by simpa using HO.out, hb2⟩
            case measure => simp [intOf]; omega
          · rw [if_neg hle, List.append_nil] at hst
            have HS := Lib.hid hst
            clear hst hz
            go_wp2
            go_roundw
            case rel => exact ⟨k + 1, l, a1, c1, by omega, by go_num, rfl, by rw [HS.out, ← HL.out], hoA, hxA⟩
            case measure => simp [intOf]; omega
    · obtain rfl : k = n := by omega
      go_wp2
      go_ret
      refine ⟨_, rfl, _, _, _, rfl, ⟨?_, endL_ok s y hr.2⟩, hx⟩
      have e := HL.out
      rw [List.take_of_length_le (by omega)] at e
      rw [← e]
      exact ho

set_option maxRecDepth 100000 in
set_option maxHeartbeats 2000000 in
theorem l12End_any (a : Option Addr) (n c : Nat) (s : ByteArray) (y : Int) (xs : List LinkV) (w : World) (hr : RdLink w a n xs) (hy : inB y (-3000) 3000 = true) (hn : n ≤ 1048577) :
    Calls Tryd.prog 55 #[.slice a n c, .string s, .int .i64 y] w fun e w' => ∃ v, e = .returned v ∧ NewLink w w' (endL xs s y) v := by
  have hln := hr.len
  have hyy := inB_at hy
  have q1 : IntKind.i64.wrap (y - 1) = y - 1 := IntWalk.i64_in _ (by omega)
  go_enter Tryd.func55, Tryd.ntmps55
  go_wp2
  go_loopw [7, 8] (fun v i wr => ∃ (k : Nat) (l : List LinkV) (a1 : Option Addr) (c1 : Nat), k ≤ n ∧ i = .int .i64 k ∧ v = .slice a1 l.length c1 ∧ l = endL (xs.take k) s y ∧ OwnG layLink 43 wr w.heap.size a1 l.length c1 l ∧ Ext w wr) (fun _ i _ => n - (intOf i).toNat)
  case atStart => exact ⟨0, [], _, _, Nat.zero_le _, rfl, rfl, by simp [endL], OwnG.lit layLink 43 w (Nat.le_refl _) [] #[] rfl (by simp), (Ext.refl _).alloc _⟩
  case round =>
    obtain ⟨k, l, a1, c1, hk, rfl, rfl, hl, ho, hx⟩ := hrel
    have HL := Lib.hid hl
    have hll : l.length ≤ k := by
      have := endL_len (xs.take k) s y
      rw [← hl] at this
      simp only [List.length_take] at this
      omega
    clear hl
    by_cases hlt : k < n
    · obtain ⟨b, o, rfl, hbl, hA⟩ := (hr.ext hx).at (by omega)
      obtain ⟨hc0, hc1, hc2, hc3⟩ := hA k hlt
      have hki : (k : Int) < n := by omega
      have hst := endL_step (s := s) (y := y) (k := k) (xs := xs) (by omega)
      clear hA
      by_cases h1 : (nthLink xs k).child = s
      · have hb1 := beqS_eq h1
        have H1 := Lib.hid h1
        clear h1
        have hz : endOne s y (nthLink xs k) = ⟨(nthLink xs k).child, (nthLink xs k).parent, (nthLink xs k).from_, (min (nthLink xs k).to_ (y - 1))⟩ := end_hit (.inl H1.out)
        rw [hz] at hst
        simp only at hst
        have hxA := hx.alloc (.cells #[.string (nthLink xs k).child, .string (nthLink xs k).parent, .int .i64 (nthLink xs k).from_, .int .i64 (min (nthLink xs k).to_ (y - 1))] 43)
        have hoA := ho.alloc (.cells #[.string (nthLink xs k).child, .string (nthLink xs k).parent, .int .i64 (nthLink xs k).from_, .int .i64 (min (nthLink xs k).to_ (y - 1))] 43)
        by_cases hle : (nthLink xs k).from_ ≤ (min (nthLink xs k).to_ (y - 1))
        · rw [if_pos hle] at hst
          have hrd := RdG.new1 layLink (wr.alloc (.cells #[.string (nthLink xs k).child, .string (nthLink xs k).parent, .int .i64 (nthLink xs k).from_, .int .i64 (min (nthLink xs k).to_ (y - 1))] 43)) ⟨(nthLink xs k).child, (nthLink xs k).parent, (nthLink xs k).from_, (min (nthLink xs k).to_ (y - 1))⟩ #[.string (nthLink xs k).child, .string (nthLink xs k).parent, .int .i64 (nthLink xs k).from_, .int .i64 (min (nthLink xs k).to_ (y - 1))] rfl 43
          rw [World.size_alloc] at hrd
          have HS := Lib.hid hst
          clear hst hz
          go_wp2_with (first | (at_builtin; refine wpList_appG layLink rfl _ _ 25 43 rfl Tryd.underlying25 (.agg #[.string ⟨#[]⟩, .string ⟨#[]⟩, .int .i64 0, .int .i64 0]) 48 Tryd.info_Link rfl (by decide) w.heap.size _ l.length _ l rfl (hoA.alloc _) _ 1 _ [⟨(nthLink xs k).child, (nthLink xs k).parent, (nthLink xs k).from_, (min (nthLink xs k).to_ (y - 1))⟩] rfl hrd (by omega) (hxA.alloc _).size ?_; intro a2 c2 w2 hown hgrow; have hb2 := hxA.appG hoA (Nat.le_refl _) hgrow; have HO := Lib.hid hown; clear hown))
          go_roundw
          case rel => exact ⟨k + 1, l ++ [⟨(nthLink xs k).child, (nthLink xs k).parent, (nthLink xs k).from_, (min (nthLink xs k).to_ (y - 1))⟩], a2, c2, by omega, by go_num, by simp, by rw [HS.out, ← HL.out], by simpa using HO.out, hb2⟩
          case measure => simp [intOf]; omega
        · rw [if_neg hle, List.append_nil] at hst
          have HS := Lib.hid hst
          clear hst hz
          go_wp2
          go_roundw
          case rel => exact ⟨k + 1, l, a1, c1, by omega, by go_num, rfl, by rw [HS.out, ← HL.out], hoA, hxA⟩
          case measure => simp [intOf]; omega
      · have hb1 := beqS_ne h1
        by_cases h2 : (nthLink xs k).parent = s
        · have hb2x := beqS_eq h2
          have H1 := Lib.hid h2
          clear h1 h2
          have hz : endOne s y (nthLink xs k) = ⟨(nthLink xs k).child, (nthLink xs k).parent, (nthLink xs k).from_, (min (nthLink xs k).to_ (y - 1))⟩ := end_hit (.inr H1.out)
          rw [hz] at hst
          simp only at hst
          have hxA := hx.alloc (.cells #[.string (nthLink xs k).child, .string (nthLink xs k).parent, .int .i64 (nthLink xs k).from_, .int .i64 (min (nthLink xs k).to_ (y - 1))] 43)
          have hoA := ho.alloc (.cells #[.string (nthLink xs k).child, .string (nthLink xs k).parent, .int .i64 (nthLink xs k).from_, .int .i64 (min (nthLink xs k).to_ (y - 1))] 43)
          by_cases hle : (nthLink xs k).from_ ≤ (min (nthLink xs k).to_ (y - 1))
          · rw [if_pos hle] at hst
            have hrd := RdG.new1 layLink (wr.alloc (.cells #[.string (nthLink xs k).child, .string (nthLink xs k).parent, .int .i64 (nthLink xs k).from_, .int .i64 (min (nthLink xs k).to_ (y - 1))] 43)) ⟨(nthLink xs k).child, (nthLink xs k).parent, (nthLink xs k).from_, (min (nthLink xs k).to_ (y - 1))⟩ #[.string (nthLink xs k).child, .string (nthLink xs k).parent, .int .i64 (nthLink xs k).from_, .int .i64 (min (nthLink xs k).to_ (y - 1))] rfl 43
            rw [World.size_alloc] at hrd
            have HS := Lib.hid hst
            clear hst hz
            go_wp2_with (first | (at_builtin; refine wpList_appG layLink rfl _ _ 25 43 rfl Tryd.underlying25 (.agg #[.string ⟨#[]⟩, .string ⟨#[]⟩, .int .i64 0, .int .i64 0]) 48 Tryd.info_Link rfl (by decide) w.heap.size _ l.length _ l rfl (hoA.alloc _) _ 1 _ [⟨(nthLink xs k).child, (nthLink xs k).parent, (nthLink xs k).from_, (min (nthLink xs k).to_ (y - 1))⟩] rfl hrd (by omega) (hxA.alloc _).size ?_; intro a2 c2 w2 hown hgrow; have hb2 := hxA.appG hoA (Nat.le_refl _) hgrow; have HO := Lib.hid hown; clear hown))
            go_roundw
            case rel => exact ⟨k + 1, l ++ [⟨(nthLink xs k).child, (nthLink xs k).parent, (nthLink xs k).from_, (min (nthLink xs k).to_ (y - 1))⟩], a2, c2, by omega, by go_num, by simp, by rw [HS.out, ← HL.out], by simpa using HO.out, hb2⟩
            case measure => simp [intOf]; omega
          · rw [if_neg hle, List.append_nil] at hst
            have HS := Lib.hid hst
            clear hst hz
            go_wp2
            go_roundw
            case rel => exact ⟨k + 1, l, a1, c1, by omega, by go_num, rfl, by rw [HS.out, ← HL.out], hoA, hxA⟩
            case measure => simp [intOf]; omega
        · have hb2x := beqS_ne h2
          have H1 := Lib.hid (And.intro h1 h2)
          clear h1 h2
          have hz : endOne s y (nthLink xs k) = ⟨(nthLink xs k).child, (nthLink xs k).parent, (nthLink xs k).from_, (nthLink xs k).to_⟩ := end_miss (fun h => h.elim H1.out.1 H1.out.2)
          rw [hz] at hst
          simp only at hst
          have hxA := hx.alloc (.cells #[.string (nthLink xs k).child, .string (nthLink xs k).parent, .int .i64 (nthLink xs k).from_, .int .i64 (nthLink xs k).to_] 43)
          have hoA := ho.alloc (.cells #[.string (nthLink xs k).child, .string (nthLink xs k).parent, .int .i64 (nthLink xs k).from_, .int .i64 (nthLink xs k).to_] 43)
          by_cases hle : (nthLink xs k).from_ ≤ (nthLink xs k).to_
          · rw [if_pos hle] at hst
            have hrd := RdG.new1 layLink (wr.alloc (.cells #[.string (nthLink xs k).child, .string (nthLink xs k).parent, .int .i64 (nthLink xs k).from_, .int .i64 (nthLink xs k).to_] 43)) ⟨(nthLink xs k).child, (nthLink xs k).parent, (nthLink xs k).from_, (nthLink xs k).to_⟩ #[.string (nthLink xs k).child, .string (nthLink xs k).parent, .int .i64 (nthLink xs k).from_, .int .i64 (nthLink xs k).to_] rfl 43
            rw [World.size_alloc] at hrd
            have HS := Lib.hid hst
            clear hst hz
            go_wp2_with (first | (at_builtin; refine wpList_appG layLink rfl _ _ 25 43 rfl Tryd.underlying25 (.agg #[.string ⟨#[]⟩, .string ⟨#[]⟩, .int .i64 0, .int .i64 0]) 48 Tryd.info_Link rfl (by decide) w.heap.size _ l.length _ l rfl (hoA.alloc _) _ 1 _ [⟨(nthLink xs k).child, (nthLink xs k).parent, (nthLink xs k).from_, (nthLink xs k).to_⟩] rfl hrd (by omega) (hxA.alloc _).size ?_; intro a2 c2 w2 hown hgrow; have hb2 := hxA.appG hoA (Nat.le_refl _) hgrow; have HO := Lib.hid hown; clear hown))
            go_roundw
            case rel => exact ⟨k + 1, l ++ [⟨(nthLink xs k).child, (nthLink xs k).parent, (nthLink xs k).from_, (nthLink xs k).to_⟩], a2, c2, by omega, by go_num, by simp, by rw [HS.out, ← HL.out], by simpa using HO.out, hb2⟩
            case measure => simp [intOf]; omega
          · rw [if_neg hle, List.append_nil] at hst
            have HS := Lib.hid hst
            clear hst hz
            go_wp2
            go_roundw
            case rel => exact ⟨k + 1, l, a1, c1, by omega, by go_num, rfl, by rw [HS.out, ← HL.out], hoA, hxA⟩
            case measure => simp [intOf]; omega
    · obtain rfl : k = n := by omega
      go_wp2
      go_ret
      refine ⟨_, rfl, _, _, _, rfl, ⟨?_, endL_ok s y hr.2⟩, hx⟩
      have e := HL.out
      rw [List.take_of_length_le (by omega)] at e
      rw [← e]
      exact ho

def endV (xs : List LinkV) (s : ByteArray) (y : Int) : List LinkV := if codeK xs (wordB s) y = 0 then endL xs s y else []
set_option maxRecDepth 100000 in
set_option maxHeartbeats 400000 in
theorem implEndLinks_any (a : Option Addr) (n c : Nat) (s : ByteArray) (y : Int) (xs : List LinkV) (w : World) (hr : RdLink w a n xs) (hcap : n ≤ c) (hs : s.size ≤ 1073741824) (hn : n ≤ 1048576) :
    Calls Tryd.prog 31 #[.slice a n c, .string s, .int .i64 y] w (RetLinkC w (endV xs s y) (codeK xs (wordB s) y)) := by
  have xb := (Ext.refl w).alloc (.cells #[.string s] 9)
  have hr2 := RdS.one w s hs 9
  have hln := hr.len
  have hle := endL_len xs s y
  by_cases hc : codeK xs (wordB s) y = 0
  · have HZ := Lib.hid (And.intro hc (And.intro (show endV xs s y = endL xs s y by rw [endV, if_pos hc]) (codeK_zero hc).2.2))
    clear hc
    go_enter Tryd.func31, Tryd.ntmps31
    go_wp2_with fail
    refine (linkCode_any _ _ _ _ _ _ _ [s] _ _ (hr.ext xb) hcap hr2 (by omega)).mono ?_
    rintro e w1 ⟨rfl, e1⟩
    rw [wordsB_one, HZ.out.1]
    go_wp2_with fail
    refine (endLinks_any _ _ _ _ _ _ _ (hr.ext (xb.trans e1)) HZ.out.2.2 (by omega)).mono ?_
    rintro e w2 ⟨v, rfl, a2, n2, c2, rfl, o2, e2⟩
    have hl2 := o2.rd.len
    go_wp2
    go_ret2
    rw [HZ.out.2.1, HZ.out.1]
    exact ⟨_, rfl, _, _, _, rfl, by omega, o2.mono (xb.trans e1).size, (xb.trans e1).trans e2⟩
  · have hb : (codeK xs (wordB s) y == 0) = false := by simpa using hc
    have HZ := Lib.hid (show endV xs s y = [] by rw [endV, if_neg hc])
    clear hc
    go_enter Tryd.func31, Tryd.ntmps31
    go_wp2_with fail
    refine (linkCode_any _ _ _ _ _ _ _ [s] _ _ (hr.ext xb) hcap hr2 (by omega)).mono ?_
    rintro e w1 ⟨rfl, e1⟩
    rw [wordsB_one]
    go_wp2
    go_ret2
    rw [HZ.out]
    exact RetLinkC.nil (xb.trans e1)

set_option maxRecDepth 100000 in
set_option maxHeartbeats 400000 in
theorem specEndLinks_any (a : Option Addr) (n c : Nat) (s : ByteArray) (y : Int) (xs : List LinkV) (w : World) (hr : RdLink w a n xs) (hs : s.size ≤ 1073741824) (hn : n ≤ 1048576) :
    Calls Tryd.prog 30 #[.slice a n c, .string s, .int .i64 y] w (RetLinkC w (endV xs s y) (codeK xs (wordB s) y)) := by
  have hln := hr.len
  have hle := endL_len xs s y
  by_cases hc : codeK xs (wordB s) y = 0
  · have HZ := Lib.hid (And.intro hc (And.intro (show endV xs s y = endL xs s y by rw [endV, if_pos hc]) (codeK_zero hc).2.2))
    clear hc
    go_enter Tryd.func30, Tryd.ntmps30
    go_wp2_with fail
    refine (l12Code_any _ _ _ _ _ _ _ hr hs (by omega)).mono ?_
    rintro e w1 ⟨rfl, e1⟩
    rw [HZ.out.1]
    go_wp2_with fail
    refine (l12End_any _ _ _ _ _ _ _ (hr.ext e1) HZ.out.2.2 (by omega)).mono ?_
    rintro e w2 ⟨v, rfl, a2, n2, c2, rfl, o2, e2⟩
    have hl2 := o2.rd.len
    go_wp2
    go_ret2
    rw [HZ.out.2.1, HZ.out.1]
    exact ⟨_, rfl, _, _, _, rfl, by omega, o2.mono e1.size, e1.trans e2⟩
  · have hb : (codeK xs (wordB s) y == 0) = false := by simpa using hc
    have HZ := Lib.hid (show endV xs s y = [] by rw [endV, if_neg hc])
    clear hc
    go_enter Tryd.func30, Tryd.ntmps30
    go_wp2_with fail
    refine (l12Code_any _ _ _ _ _ _ _ hr hs (by omega)).mono ?_
    rintro e w1 ⟨rfl, e1⟩
    go_wp2
    go_ret2
    rw [HZ.out]
    exact RetLinkC.nil e1

end Go.Proofs.YtgbfihjimbpgnaaDoor
