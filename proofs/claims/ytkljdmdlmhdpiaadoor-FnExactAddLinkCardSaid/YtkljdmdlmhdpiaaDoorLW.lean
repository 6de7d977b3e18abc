/-
  The way up from a place: the walks of both sides end at the same way.
-/
import Derived.Test.YtkljdmdlmhdpiaaDoorLK
namespace Go.Proofs.YtkljdmdlmhdpiaaDoor
open Go.RowKit

theorem hasS_mem {ss : List ByteArray} {s : ByteArray} : hasS ss s = true ↔ s ∈ ss := by
  refine ⟨fun h => ?_, fun h => ?_⟩
  · obtain ⟨k, hk, he, _⟩ := hasS_of h
    exact he ▸ nthS_mem hk
  · obtain ⟨k, hk, rfl⟩ := List.getElem_of_mem h
    exact hasS_at hk (nthS_eq hk)
theorem hasS_not {ss : List ByteArray} {s : ByteArray} (h : hasS ss s = false) : s ∉ ss := fun hm => by rw [hasS_mem.2 hm] at h; cases h
theorem pigeon {α : Type} [DecidableEq α] : ∀ (l m : List α), l.Nodup → (∀ x ∈ l, x ∈ m) → l.length ≤ m.length
  | [], _, _, _ => Nat.zero_le _
  | x :: l, m, hn, hs => by
    obtain ⟨h1, h2⟩ := List.nodup_cons.1 hn
    have hx : x ∈ m := hs x (List.mem_cons_self ..)
    have := pigeon l (m.erase x) h2 fun y hy => (List.mem_erase_of_ne (fun e : y = x => h1 (by rw [← e]; exact hy))).2 (hs y (List.mem_cons_of_mem _ hy))
    have hl := List.length_erase_of_mem hx
    have hp := List.length_pos_of_mem hx
    rw [List.length_cons]
    omega

def lastS (l : List ByteArray) : ByteArray := nthS l (l.length - 1)
theorem lastS_snoc (l : List ByteArray) (x : ByteArray) : lastS (l ++ [x]) = x := by simp [lastS, nthS]
/-- The way from a way on, fuel steps at most. -/
def wayN (xs : List LinkV) (y : Int) : Nat → List ByteArray → List ByteArray
  | 0, l => l
  | k + 1, l => if parB xs (lastS l) y = true ∧ hasS l (parT xs (lastS l) y) = false then wayN xs y k (l ++ [parT xs (lastS l) y]) else l
def wayU (xs : List LinkV) (code : ByteArray) (y : Int) : List ByteArray := wayN xs y (xs.length + 1) [code]
def circB (xs : List LinkV) (code : ByteArray) (y : Int) : Bool := parB xs (lastS (wayU xs code y)) y
theorem wayN_stop {xs : List LinkV} {y : Int} {k : Nat} {l : List ByteArray} (h : ¬ (parB xs (lastS l) y = true ∧ hasS l (parT xs (lastS l) y) = false)) : wayN xs y k l = l := by
  cases k with
  | zero => rfl
  | succ k => rw [wayN, if_neg h]
theorem wayN_step {xs : List LinkV} {y : Int} {k : Nat} {l : List ByteArray} (h : parB xs (lastS l) y = true) (h2 : hasS l (parT xs (lastS l) y) = false) : wayN xs y (k + 1) l = wayN xs y k (l ++ [parT xs (lastS l) y]) := by
  rw [wayN, if_pos ⟨h, h2⟩]
theorem parT_mem {xs : List LinkV} {s : ByteArray} {y : Int} (h : parB xs s y = true) : ∃ k, k < xs.length ∧ parT xs s y = (nthLink xs k).parent := by
  rcases par_cases xs s y with h1 | ⟨k, hk, h1⟩
  · rw [(par_none h1).2] at h; cases h
  · exact ⟨k, hk, (par_some h1).1⟩
/-- A way under way. -/
structure Path (xs : List LinkV) (code : ByteArray) (y : Int) (l : List ByteArray) : Prop where
  pos : 0 < l.length
  nodup : l.Nodup
  tail : ∀ x ∈ l.tail, x ∈ xs.map LinkV.parent
  small : ∀ x ∈ l, x.size ≤ 1073741824
  way : ∃ k, k + l.length = xs.length + 2 ∧ wayU xs code y = wayN xs y k l
theorem Path.start (xs : List LinkV) {code : ByteArray} (y : Int) (h : code.size ≤ 1073741824) : Path xs code y [code] :=
  ⟨by simp, by simp, by simp, by simpa using h, xs.length + 1, by simp, rfl⟩
theorem Path.len {xs : List LinkV} {code : ByteArray} {y : Int} {l : List ByteArray} (h : Path xs code y l) : l.length ≤ xs.length + 1 := by
  have hp := h.pos
  cases l with
  | nil => simp
  | cons a l =>
    have := pigeon l (xs.map LinkV.parent) (List.nodup_cons.1 h.nodup).2 h.tail
    simp only [List.length_map] at this
    simp only [List.length_cons]
    omega
theorem Path.step {xs : List LinkV} {code : ByteArray} {y : Int} {l : List ByteArray} (h : Path xs code y l) (hok : ∀ x ∈ xs, okLink x) (hb : parB xs (lastS l) y = true) (hs : hasS l (parT xs (lastS l) y) = false) : Path xs code y (l ++ [parT xs (lastS l) y]) := by
  obtain ⟨k, hk, hw⟩ := h.way
  obtain ⟨j, hj, he⟩ := parT_mem hb
  have hl := h.len
  have hp := h.pos
  have hm : nthLink xs j ∈ xs := nthLink_mem hj
  refine ⟨by simp, ?_, ?_, ?_, k - 1, by simp only [List.length_append, List.length_cons, List.length_nil]; omega, ?_⟩
  · rw [List.nodup_append]
    refine ⟨h.nodup, by simp, fun a ha b hb2 => ?_⟩
    simp only [List.mem_cons, List.mem_nil_iff, or_false] at hb2
    intro e
    exact hasS_not hs (by rw [← hb2, ← e]; exact ha)
  · intro x hx
    cases l with
    | nil => simp at hp
    | cons a l =>
      simp only [List.cons_append, List.tail_cons, List.mem_append, List.mem_cons, List.mem_nil_iff, or_false] at hx
      rcases hx with hx | rfl
      · exact h.tail x hx
      · exact List.mem_map.2 ⟨_, hm, he.symm⟩
  · intro x hx
    simp only [List.mem_append, List.mem_cons, List.mem_nil_iff, or_false] at hx
    rcases hx with hx | rfl
    · exact h.small x hx
    · rw [he]; exact (hok _ hm).2
  · obtain ⟨k', rfl⟩ : ∃ k', k = k' + 1 := ⟨k - 1, by omega⟩
    rw [hw, wayN_step hb hs]
    rfl
theorem Path.stop {xs : List LinkV} {code : ByteArray} {y : Int} {l : List ByteArray} (h : Path xs code y l) (h2 : ¬ (parB xs (lastS l) y = true ∧ hasS l (parT xs (lastS l) y) = false)) : wayU xs code y = l ∧ circB xs code y = parB xs (lastS l) y := by
  obtain ⟨k, hk, hw⟩ := h.way
  have : wayU xs code y = l := by rw [hw, wayN_stop h2]
  exact ⟨this, by rw [circB, this]⟩
theorem RdLink.oks {w : World} {a : Option Addr} {n : Nat} {xs : List LinkV} (h : RdLink w a n xs) : ∀ x ∈ xs, okLink x := h.2
def lenV : Value → Nat
  | .slice _ n _ => n
  | _ => 0

set_option maxRecDepth 100000 in
set_option maxHeartbeats 1000000 in
theorem wayUp_any (a : Option Addr) (n c : Nat) (s : ByteArray) (y : Int) (xs : List LinkV) (w : World) (hr : RdLink w a n xs) (hs : s.size ≤ 1073741824) (hn : n ≤ 1048577) :
    Calls Tryd.prog 54 #[.slice a n c, .string s, .int .i64 y] w fun e w' => ∃ v, e = .returned v ∧ NewS w w' (wayU xs s y) v ∧ 0 < (wayU xs s y).length ∧ (wayU xs s y).length ≤ 1048578 := by
  have hln := hr.len
  go_enter Tryd.func54, Tryd.ntmps54
  go_wp2
  go_loopw [7] (fun v wr => ∃ (l : List ByteArray) (a1 : Option Addr) (c1 : Nat), v = .slice a1 l.length c1 ∧ OwnG layS 9 wr w.heap.size a1 l.length c1 l ∧ Ext w wr ∧ Path xs s y l) (fun v _ => n + 2 - lenV v)
  case atStart => exact ⟨[s], _, _, rfl, OwnG.lit layS 9 w (Nat.le_refl _) [s] #[.string s] rfl (by simp), (Ext.refl _).alloc _, Path.start xs y hs⟩
  case round =>
    obtain ⟨l, a1, c1, rfl, ho, hx, hp⟩ := hrel
    have hlp := hp.pos
    have hll := hp.len
    have hos : OwnS wr w.heap.size a1 l.length c1 l := ⟨ho, hp.small⟩
    have HP := Lib.hid hp
    clear hp
    obtain ⟨m, hm⟩ : ∃ m, l.length = m + 1 := ⟨l.length - 1, by omega⟩
    obtain ⟨b, o, rfl, hbl, hc⟩ := hos.rd.at (by omega)
    have hck := hc m (by omega)
    have hlast : nthS l m = lastS l := by rw [lastS, hm, Nat.add_sub_cancel]
    rw [hlast] at hck
    clear hc hlast
    have hml : (l.length : Int) = (m : Int) + 1 := by omega
    have q1 : IntKind.i64.wrap ((l.length : Int) - 1) = m := (IntWalk.i64_in _ (by omega)).trans (by omega)
    have p0 : (0 : Int) ≤ (m : Int) := by omega
    have p2 : (m : Int) < (l.length : Int) := by omega
    have HM := Lib.hid (And.intro hm hml)
    clear hm hml
    go_wp2_with fail
    refine (parentIn_any _ _ _ _ _ _ _ (hr.ext hx)).mono ?_
    rintro e w1 ⟨rfl, e1⟩
    cases hb : parB xs (lastS l) y
    · have HB := Lib.hid (HP.out.stop (by rw [hb]; simp))
      clear hb
      go_wp2
      go_ret
      refine ⟨_, rfl, ?_, ?_, ?_⟩
      · rw [HB.out.1]; exact ⟨_, _, _, rfl, hos.ext e1, hx.trans e1⟩
      · rw [HB.out.1]; exact hlp
      · rw [HB.out.1]; omega
    · cases hh : hasS l (parT xs (lastS l) y)
      · have HB := Lib.hid (And.intro hb hh)
        clear hb
        have ho1 := ho.ext e1
        have hx1 := hx.trans e1
        go_wp2_with fail
        refine (slContains_string_any _ _ _ _ _ _ (hos.rd.ext e1)).mono ?_
        rintro e w2 ⟨rfl, rfl⟩
        rw [hh]
        clear hh
        go_wp2_with (first | (at_builtin; refine wpList_appG layS rfl _ _ 40 9 rfl Tryd.underlying40 (.string ⟨#[]⟩) 16 Tryd.info_string rfl (by decide) w.heap.size _ l.length _ l rfl (ho1.alloc _) _ 1 _ [parT xs (lastS l) y] rfl (RdG.new1 layS _ _ _ rfl _) (by omega) (hx1.alloc _).size ?_; intro a2 c2 w2 hown hgrow; have hb2 := hx1.appG ho1 (Nat.le_refl _) hgrow; have HO := Lib.hid hown; clear hown))
        go_roundw
        case rel => exact ⟨l ++ [parT xs (lastS l) y], a2, c2, by simp, by simpa using HO.out, hb2, HP.out.step hr.2 HB.out.1 HB.out.2⟩
        case measure => simp only [lenV]; omega
      · have HB := Lib.hid (HP.out.stop (by rw [hh]; simp))
        clear hb
        go_wp2_with fail
        refine (slContains_string_any _ _ _ _ _ _ (hos.rd.ext e1)).mono ?_
        rintro e w2 ⟨rfl, rfl⟩
        rw [hh]
        clear hh
        go_wp2
        go_ret
        refine ⟨_, rfl, ?_, ?_, ?_⟩
        · rw [HB.out.1]; exact ⟨_, _, _, rfl, hos.ext e1, hx.trans e1⟩
        · rw [HB.out.1]; exact hlp
        · rw [HB.out.1]; omega

set_option maxRecDepth 100000 in
set_option maxHeartbeats 1000000 in
theorem isCircle_any (a : Option Addr) (n c : Nat) (s : ByteArray) (y : Int) (xs : List LinkV) (w : World) (hr : RdLink w a n xs) (hs : s.size ≤ 1073741824) (hn : n ≤ 1048577) :
    Calls Tryd.prog 42 #[.slice a n c, .string s, .int .i64 y] w fun e w' => e = .returned (.bool (circB xs s y)) ∧ Ext w w' := by
  go_enter Tryd.func42, Tryd.ntmps42
  go_wp2_with fail
  refine (wayUp_any _ _ _ _ _ _ _ hr hs hn).mono ?_
  rintro e w1 ⟨v, rfl, ⟨a1, n1, c1, rfl, o1, x1⟩, hp0, hp1⟩
  have hln := o1.rd.len
  obtain ⟨m, rfl⟩ : ∃ m, n1 = m + 1 := ⟨n1 - 1, by omega⟩
  obtain ⟨b, o, rfl, hbl, hc⟩ := o1.rd.at (by omega)
  have hck := hc m (by omega)
  have hlast : nthS (wayU xs s y) m = lastS (wayU xs s y) := by rw [lastS, hln, Nat.add_sub_cancel]
  rw [hlast] at hck
  clear hc hlast
  have q1 : IntKind.i64.wrap ((m : Int) + 1 - 1) = m := (IntWalk.i64_in _ (by omega)).trans (by omega)
  have p0 : (0 : Int) ≤ (m : Int) := by omega
  have p2 : (m : Int) < (m : Int) + 1 := by omega
  go_wp2_with fail
  refine (parentIn_any _ _ _ _ _ _ _ (hr.ext x1)).mono ?_
  rintro e w2 ⟨rfl, e2⟩
  go_wp2
  go_ret
  exact ⟨rfl, x1.trans e2⟩

end Go.Proofs.YtkljdmdlmhdpiaaDoor
