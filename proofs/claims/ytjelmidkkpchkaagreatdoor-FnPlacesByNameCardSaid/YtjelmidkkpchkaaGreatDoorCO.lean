/-
  The codes of the places that meet a test.
-/
import Derived.Test.YtjelmidkkpchkaaGreatDoorCR
import Derived.Test.YtjelmidkkpchkaaGreatDoorOR
namespace Go.Proofs.YtjelmidkkpchkaaGreatDoor
open Go.RowKit
attribute [local go_sem ↓] Go.wp_at_zero Go.wp_at_succ

set_option maxRecDepth 100000 in
set_option maxHeartbeats 2000000 in
theorem codesIn_any (a : Option Addr) (n c : Nat) (xs : List PlaceV) (p : PlaceV → Bool) (q0 : Addr) (w : World) (hr : RdPlace w a n xs) (hn : n ≤ 1048576) (hk : ∀ w1, Ext w w1 → ∀ k, k < n → ∀ r, NamesAt w1 r (nthPlace xs k) → Calls Tryz.prog 71 #[valPlace (nthPlace xs k) r, .pointer (some q0)] w1 fun e w2 => e = .returned (.bool (p (nthPlace xs k))) ∧ Ext w1 w2) :
    Calls Tryz.prog 40 #[.slice a n c, .func (.func 71) #[] #[.pointer (some q0)]] w fun e w' => ∃ v, e = .returned v ∧ ∃ a1 n1 c1, v = .slice a1 n1 c1 ∧ n1 ≤ n ∧ OwnS w' w.heap.size a1 n1 c1 (pickL p PlaceV.code xs n) ∧ Ext w w' := by
  obtain ⟨f, hr⟩ := hr
  have hm := hr.le
  have hln := hr.len
  have HC := Lib.hid hk
  clear hk
  go_enter Tryz.func40, Tryz.ntmps40
  go_wp2
  go_loopw [5, 10] (fun v i wr => ∃ (k : Nat) (l : List ByteArray) (a1 : Option Addr) (c1 : Nat), k ≤ n ∧ i = .int .i64 k ∧ v = .slice a1 l.length c1 ∧ l = pickL p PlaceV.code xs k ∧ OwnG layS 9 wr w.heap.size a1 l.length c1 l ∧ Ext w wr) (fun _ i _ => n - (intOf i).toNat)
  case atStart => exact ⟨0, [], _, _, Nat.zero_le _, rfl, rfl, (pick_zero _ _ _).symm, OwnG.isNil _ _ _ _, Ext.refl _⟩
  case round =>
    obtain ⟨k, l, a1, c1, hk, rfl, rfl, hl, ho, hx⟩ := hrel
    have HL := Lib.hid hl
    have hll : l.length ≤ k := by rw [hl]; exact pick_len _ _ _ _
    clear hl
    by_cases hlt : k < n
    · obtain ⟨b, o, rfl, hbl, hA⟩ := (hr.ext hx).at (by omega)
      obtain ⟨hc0, hc1, hc2, hc3, hc4⟩ := hA k hlt
      have hna := (hr.ext hx).2 k hlt
      have hki : (k : Int) < n := by omega
      have xb := (Ext.refl wr).alloc (.cells #[.string (nthPlace xs k).code, .int .i64 (nthPlace xs k).klass, .int .i64 (nthPlace xs k).from_, .int .i64 (nthPlace xs k).to_, .slice (f k).a (f k).n (f k).c] 67)
      have hxA := hx.trans xb
      have hoA := ho.ext xb
      have hget : xs[k]? = some (nthPlace xs k) := by rw [nthPlace_eq (by omega)]; exact List.getElem?_eq_getElem (by omega)
      clear hA
      cases hp : p (nthPlace xs k)
      · have HS := Lib.hid (And.intro (pick_out (p := p) (f := PlaceV.code) hget hp) hp)
        clear hp hget
        go_wp2_with fail
        refine (HC.out _ hxA k hlt (f k) (hna.ext xb)).mono ?_
        rintro e w1 ⟨rfl, e1⟩
        rw [HS.out.2]
        go_wp2
        go_roundw
        case rel => exact ⟨k + 1, l, a1, c1, by omega, by go_num, rfl, by rw [HS.out.1, ← HL.out], hoA.ext e1, hxA.trans e1⟩
        case measure => simp [intOf]; omega
      · have HS := Lib.hid (And.intro (pick_in (p := p) (f := PlaceV.code) hget hp) hp)
        clear hp hget
        go_wp2_with fail
        refine (HC.out _ hxA k hlt (f k) (hna.ext xb)).mono ?_
        rintro e w1 ⟨rfl, e1⟩
        rw [HS.out.2]
        have b0 : _ = some (Value.string (nthPlace xs k).code) := box_keptG e1 0
        have hoE := hoA.ext e1
        have hxE := hxA.trans e1
        clear e1 hoA hxA ho hx xb
        go_wp2_with (first | (at_builtin; refine wpList_appG layS rfl _ _ 27 9 rfl Tryz.underlying27 (.string ⟨#[]⟩) 16 Tryz.info_string rfl (by decide) w.heap.size _ l.length _ l rfl (hoE.alloc _) _ 1 _ [(nthPlace xs k).code] rfl (RdG.new1 layS _ _ _ rfl _) (by omega) (hxE.alloc _).size ?_; intro a2 c2 w2 hown hgrow; have hb2 := hxE.appG hoE (Nat.le_refl _) hgrow; have HO := Lib.hid hown; clear hown))
        go_roundw
        case rel => exact ⟨k + 1, l ++ [(nthPlace xs k).code], a2, c2, by omega, by go_num, by simp, by rw [HS.out.1, ← HL.out], by simpa using HO.out, hb2⟩
        case measure => simp [intOf]; omega
    · obtain rfl : k = n := by omega
      go_wp2
      go_ret
      refine ⟨_, rfl, a1, l.length, c1, rfl, hll, ?_, hx⟩
      rw [← HL.out]
      refine ⟨ho, fun z hz => ?_⟩
      rw [HL.out] at hz
      obtain ⟨x, hx', _, rfl⟩ := pick_mem hz
      obtain ⟨j, hj, rfl⟩ := List.getElem_of_mem hx'
      have := (hr.2 j (by omega)).2.2.1
      rwa [nthPlace_eq hj] at this

end Go.Proofs.YtjelmidkkpchkaaGreatDoor
