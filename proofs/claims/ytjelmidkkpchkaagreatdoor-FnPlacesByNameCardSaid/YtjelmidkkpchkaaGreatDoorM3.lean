/-
  Texts of this claim, put together.
-/
import Derived.Test.YtjelmidkkpchkaaGreatDoorM0
import Derived.Deep.QuietTactic
import Derived.BigQuiet
import Derived.Test.YtjelmidkkpchkaaGreatDoorG
import Derived.HandedShaped
import Derived.LaidMore
import Derived.Lay
import Derived.Stop.Joined

section
namespace Go.Proofs.YtjelmidkkpchkaaGreatDoor
open Go.RowKit

set_option maxHeartbeats 400000 in
theorem likeTexts_same (a b : Option Addr) (n c c' : Nat) (ss : List ByteArray) (w : World) (ha : RdS w a n ss) (hb : RdS w b n ss) :
    Calls Tryz.prog 18 #[.slice a n c, .slice b n c'] w fun e w' => e = .returned (.bool true) ∧ Still w w' := by
  have hm := ha.le
  go_enter Tryz.func18, Tryz.ntmps18
  go_wp2
  go_loopw [5] (fun i wr => ∃ k : Nat, k ≤ n ∧ i = .int .i64 k ∧ Still w wr) (fun i _ => n - (intOf i).toNat)
  case atStart => exact ⟨0, Nat.zero_le _, rfl, Still.refl _⟩
  case round =>
    obtain ⟨k, hk, rfl, hs⟩ := hrel
    by_cases hlt : k < n
    · obtain ⟨b1, o1, rfl, hbl1, hc1⟩ := (ha.ext hs.ext).at (by omega)
      obtain ⟨b2, o2, rfl, hbl2, hc2⟩ := (hb.ext hs.ext).at (by omega)
      have hk1 := hc1 k hlt
      have hk2 := hc2 k hlt
      clear hc1 hc2
      have hki : (k : Int) < n := by omega
      go_wp2
      go_quiet (fail)
      go_wp2
      go_roundw
      case rel => exact ⟨k + 1, by omega, by go_num, hs.drewN _⟩
      case measure => simp [intOf]; omega
    · obtain rfl : k = n := by omega
      go_wp2
      go_ret
      exact ⟨rfl, hs⟩

def hasT (ss : List ByteArray) (s : ByteArray) : Bool := ss.any fun x => x.toList == s.toList
theorem hasT_at {ss : List ByteArray} {s : ByteArray} {k : Nat} (hk : k < ss.length) (h : ((nthS ss k).toList == s.toList) = true) : hasT ss s = true :=
  List.any_eq_true.2 ⟨nthS ss k, nthS_mem hk, h⟩
theorem hasT_no {ss : List ByteArray} {s : ByteArray} (h : ∀ k, k < ss.length → ((nthS ss k).toList == s.toList) = false) : hasT ss s = false := by
  rw [hasT, List.any_eq_false]
  intro x hx
  obtain ⟨k, hk, rfl⟩ := List.getElem_of_mem hx
  have := h k hk
  rw [nthS_eq hk] at this
  rw [this]
  decide
set_option maxHeartbeats 400000 in
theorem hasText_any (a : Option Addr) (n c : Nat) (s : ByteArray) (ss : List ByteArray) (w : World) (hr : RdS w a n ss) :
    Calls Tryz.prog 19 #[.slice a n c, .string s] w fun e w' => e = .returned (.bool (hasT ss s)) ∧ w = w' := by
  have hm := hr.le
  have hln := hr.len
  go_enter Tryz.func19, Tryz.ntmps19
  go_wp2
  go_loopw [5] (fun i wr => ∃ k : Nat, k ≤ n ∧ i = .int .i64 k ∧ w = wr ∧ (∀ j, j < k → ((nthS ss j).toList == s.toList) = false)) (fun i _ => n - (intOf i).toNat)
  case atStart => exact ⟨0, Nat.zero_le _, rfl, rfl, fun j hj => by omega⟩
  case round =>
    obtain ⟨k, hk, rfl, rfl, hp⟩ := hrel
    have HP := Lib.hid hp
    clear hp
    by_cases hlt : k < n
    · obtain ⟨b1, o1, rfl, hbl1, hc1⟩ := hr.at (by omega)
      have hk1 := hc1 k hlt
      clear hc1
      have hki : (k : Int) < n := by omega
      cases he : ((nthS ss k).toList == s.toList)
      · go_wp2
        go_roundw
        case rel => exact ⟨k + 1, by omega, by go_num, trivial, fun j hj => by
          by_cases e : j = k
          · rw [e]; exact he
          · exact HP.out j (by omega)⟩
        case measure => simp [intOf]; omega
      · have HE := Lib.hid (hasT_at (ss := ss) (by omega) he)
        go_wp2
        go_ret
        exact ⟨by rw [HE.out]; rfl, rfl⟩
    · obtain rfl : k = n := by omega
      have HE := Lib.hid (hasT_no (ss := ss) (s := s) fun j hj => HP.out j (by omega))
      go_wp2
      go_ret
      exact ⟨by rw [HE.out]; rfl, rfl⟩

theorem hasT_mem {ss : List ByteArray} {s : ByteArray} : hasT ss s = true ↔ s ∈ ss := by
  rw [hasT, List.any_eq_true]
  constructor
  · rintro ⟨x, hx, e⟩
    rw [beq_iff_eq, ByteArray.toList_eq, ByteArray.toList_eq] at e
    rwa [← Go.WideShapes.bytes_inj e]
  · intro h
    exact ⟨s, h, by simp⟩

end Go.Proofs.YtjelmidkkpchkaaGreatDoor
end

section
namespace Go.Proofs.YtjelmidkkpchkaaGreatDoor
open Go.ChangeShapes Go.WideShapes Go.ChangeAt Go.RowKit

/-- A slice of bytes that came in; how many is not bounded. -/
def InBy (w : World) (a : Option Addr) (n : Nat) (bs : List Int) : Prop := bs.length = n ∧ (∀ k, 0 ≤ nth bs k ∧ nth bs k ≤ 255) ∧ Rd w a (bs.map (Value.int .u8))
theorem InBy.rdBy {w : World} {a : Option Addr} {n : Nat} {bs : List Int} (h : InBy w a n bs) (hn : n ≤ 4294967296) : RdBy w a n bs := ⟨h.1, hn, h.2.1, h.2.2⟩

section
variable {H : Type} {enc : TypeId × Value → H} {w : World} {spare : Nat → Bool} {held : Bool} {a : Option Addr} {n c : Nat} {d : DataW H} {p : List MemPlace}
theorem open_inBy (h : DataW.Trod enc Tryz.prog w 0 spare held 22 (.slice a n c) d p) : ∃ bs, InBy w a n bs := by
  obtain ⟨fuel, hf⟩ := h
  rcases open_ints Tryz.underlying22 Tryz.underlying5 (by kernel_rfl) hf with ⟨hcs, _⟩ | ⟨x, l, c', zs, hcs, _, hl, hm, hz, _, hcell, hwz⟩
  · simp [Value.cells] at hcs
    obtain ⟨rfl, rfl, rfl⟩ := hcs
    exact ⟨[], rfl, by simp [nth], .inl rfl⟩
  · simp [Value.cells] at hcs
    obtain ⟨rfl, rfl, rfl⟩ := hcs
    have hln : n ≤ zs.length := by rw [hz]; split <;> omega
    have key : ∀ z ∈ zs, 0 ≤ z ∧ z ≤ 255 := by
      intro z hz
      have hm := hwz z hz
      simp [Lit.wf, IntKind.min, IntKind.max, IntKind.signed, IntKind.bits] at hm
      omega
    refine ⟨zs.take n, by simp; omega, fun k => ?_, rd_of_cells fun i u hu => ?_⟩
    · by_cases hk : k < (zs.take n).length
      · rw [nth_eq hk]
        exact key _ (List.mem_of_mem_take (List.getElem_mem hk))
      · simp only [nth, List.getD_eq_getElem?_getD, List.getElem?_eq_none (Nat.le_of_not_lt hk)]
        decide
    · have hi := (List.getElem?_eq_some_iff.1 hu).1
      simp at hi
      rw [hcell i (by omega)]
      simp [List.getElem?_take, show i < zs.length by omega] at hu
      simp [hu.2, show i < zs.length by omega]
end

theorem big_any (a : Option Addr) (n c : Nat) (w : World) : Calls Tryz.prog 5 #[.slice a n c] w fun e w' => e = .returned (.bool (decide (4096 < (n : Int)))) ∧ w = w' := by
  go_enter Tryz.func5, Tryz.ntmps5
  go_wp2
  go_ret
  exact ⟨rfl, rfl⟩

set_option maxHeartbeats 400000 in
theorem likeInts_same (a b : Option Addr) (n c c' : Nat) (zs : List Int) (w : World) (ha : RdI w a n zs) (hb : RdI w b n zs) :
    Calls Tryz.prog 33 #[.slice a n c, .slice b n c'] w fun e w' => e = .returned (.bool true) ∧ Still w w' := by
  have hm := ha.le
  go_enter Tryz.func33, Tryz.ntmps33
  go_wp2
  go_loopw [5] (fun i wr => ∃ k : Nat, k ≤ n ∧ i = .int .i64 k ∧ Still w wr) (fun i _ => n - (intOf i).toNat)
  case atStart => exact ⟨0, Nat.zero_le _, rfl, Still.refl _⟩
  case round =>
    obtain ⟨k, hk, rfl, hs⟩ := hrel
    by_cases hlt : k < n
    · obtain ⟨b1, o1, rfl, hbl1, hc1⟩ := (ha.ext hs.ext).at (by omega)
      obtain ⟨b2, o2, rfl, hbl2, hc2⟩ := (hb.ext hs.ext).at (by omega)
      have hk1 := hc1 k hlt
      have hk2 := hc2 k hlt
      clear hc1 hc2
      have hki : (k : Int) < n := by omega
      go_wp2
      go_quiet (fail)
      go_wp2
      go_roundw
      case rel => exact ⟨k + 1, by omega, by go_num, hs.drewN _⟩
      case measure => simp [intOf]; omega
    · obtain rfl : k = n := by omega
      go_wp2
      go_ret
      exact ⟨rfl, hs⟩

end Go.Proofs.YtjelmidkkpchkaaGreatDoor
end

section
namespace Go.Proofs.YtjelmidkkpchkaaGreatDoor
open Go.ChangeShapes Go.WideShapes Go.ChangeAt Go.RowKit

theorem handed_shaped_and {H : Type} {enc : TypeId × Value → H} {a : Assume} {C : Checked} {os : Os} {f : FuncId} {fn : Func} {s : ChangeSpec} {conds : List PathCond} {apart fresh handsOn again : Bool} {X : World → Array Value → Prop}
    (hX : ∀ (w w' : World) (args : Array Value), w.heap = w'.heap → X w args → X w' args)
    (own : ownKnob C.prog.godebug = none) (started : os.Started) (noInit : C.prog.inits.idxOf? f = none) (hfn : C.prog.funcs[f]? = some fn)
    (witness : ∃ (w : World) (tape : Tape) (i : Input), w.os = os ∧ (w.forCall tape i).Shaped C.prog ∧ i.vars = [] ∧ Input.okWide C.prog (w.forCall tape i) .any w.heap.size f i ∧
      ((s.pre enc C.prog fn conds apart (w.forCall tape i).memory i.args ∧ X (w.forCall tape i).memory i.args) ∧ sizedMet enc C.prog fn (OpenSpec.ofChange s) apart (w.forCall tape i).memory i.args) ∧ a.holds C.prog (lone (Frame.enter C.prog f i.args .normal) [] (w.forCall tape i)))
    (contract : ∀ (W : World) (base : Nat) (args : Array Value) (ds gs : List (DataW H)) (before : List MemPlace),
      (∀ (j : Nat) t v, fn.params[j]? = some t → args[j]? = some v → Value.okWide C.prog W .any base t v) →
      DataW.Whole enc C.prog fn.params.toList s.vars apart W args.toList ds gs before →
      conds.all (PathCond.test C.prog ⟨fn.params.toList, ds, s.plain.varTypes C.prog, gs⟩) = true →
      W.ShapedOpen C.prog → X W args →
      Calls C.prog f args W fun e W' => ∃ v, e = .returned v ∧ s.post enc C.prog fn apart fresh handsOn again W args v W') :
    ReturnsInHanded a C os f .any (fun w args => (s.pre enc C.prog fn conds apart w args ∧ X w args) ∧ sizedMet enc C.prog fn (OpenSpec.ofChange s) apart w args) (s.post enc C.prog fn apart fresh handsOn again) := by
  refine returnsInHanded_of_calls own started noInit witness ?_
  intro w tape i _ hsh _ hok hpre hholds
  obtain ⟨_, _, _, fn', hfn', _, _, _, _, hval⟩ := hok
  have e : fn' = fn := Option.some.inj (hfn'.symm.trans hfn)
  subst e
  obtain ⟨⟨⟨ds, gs, before, hw, hc⟩, hx⟩, hz⟩ := hpre
  have hw' := DataW.Whole.of_heap (w' := w.forCall tape i) (by rfl) hw
  refine (contract (w.forCall tape i) w.heap.size i.args ds gs before hval hw' hc hsh (hX _ _ _ (by rfl) hx)).mono fun e W' ⟨v, he, hp⟩ => ?_
  subst he
  exact ChangeSpec.post_blind hp
end Go.Proofs.YtjelmidkkpchkaaGreatDoor
end
