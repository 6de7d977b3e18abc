/-
  Spelling a phrase: the spellings of its words: both sides.
-/
import Derived.Test.YtdicjpkcgeofjaaGreatDoorM0
import Derived.Test.YtdicjpkcgeofjaaGreatDoorSB
import Derived.Test.YtdicjpkcgeofjaaGreatDoorY2
namespace Go.Proofs.YtdicjpkcgeofjaaGreatDoor
open Go.RowKit

/-! The plain law. -/
def spellsO (ss : List ByteArray) : List ByteArray → Option (List (List Int))
  | [] => some []
  | u :: us => match spellO ss u with
    | none => none
    | some z => (spellsO ss us).map (z :: ·)
theorem spellsO_none {ss : List ByteArray} : ∀ {us : List ByteArray} {k : Nat}, k < us.length → spellO ss (nthS us k) = none → spellsO ss us = none
  | [], k, hk, _ => by simp at hk
  | u :: us, 0, _, h => by
    rw [nthS_eq (by simp)] at h
    rw [spellsO]
    simp only [List.getElem_cons_zero] at h
    rw [h]
  | u :: us, k + 1, hk, h => by
    have hk' : k < us.length := by simpa using hk
    have e : nthS (u :: us) (k + 1) = nthS us k := by rw [nthS_eq hk, nthS_eq hk', List.getElem_cons_succ]
    rw [e] at h
    rw [spellsO, spellsO_none hk' h]
    cases spellO ss u <;> rfl
/-- The spelling of a word, or none. -/
def sp1 (ss : List ByteArray) (u : ByteArray) : List Int := (spellO ss u).getD []
theorem spellsO_some {ss : List ByteArray} : ∀ {us : List ByteArray}, (∀ k, k < us.length → (spellO ss (nthS us k)).isSome = true) → spellsO ss us = some (us.map (sp1 ss))
  | [], _ => rfl
  | u :: us, h => by
    have h0 := h 0 (by simp)
    rw [nthS_eq (by simp), List.getElem_cons_zero] at h0
    obtain ⟨z, hz⟩ := Option.isSome_iff_exists.1 h0
    rw [spellsO, hz, spellsO_some (us := us) fun k hk => by
      have := h (k + 1) (by simpa using hk)
      rwa [nthS_eq (by simpa using hk), List.getElem_cons_succ, ← nthS_eq hk] at this]
    simp [sp1, hz]
theorem spellsO_isSome {ss : List ByteArray} {us : List ByteArray} (h : (spellsO ss us).isSome = true) {k : Nat} (hk : k < us.length) : (spellO ss (nthS us k)).isSome = true := by
  cases hs : spellO ss (nthS us k)
  · rw [spellsO_none hk hs] at h; cases h
  · rfl
/-- A phrase can be written; the spellings of its words. -/
def canB (ss : List ByteArray) (s : ByteArray) : Bool := (spellsO ss (splitC 32 s)).isSome
def spL (ss : List ByteArray) (s : ByteArray) : List (List Int) := (splitC 32 s).map (sp1 ss)
theorem can_spells {ss : List ByteArray} {s : ByteArray} (h : canB ss s = true) : spellsO ss (splitC 32 s) = some (spL ss s) := spellsO_some fun _ hk => spellsO_isSome h hk

/-! Rows of rows that a call owns. -/
def OwnZ (w : World) (B : Nat) (a : Option Addr) (n c : Nat) (gs : List Gr) : Prop := OwnG layGr 25 w B a n c gs ∧ ∀ q ∈ gs, OwnI w B q.at_ q.zs.length q.cp q.zs
theorem OwnZ.ext {w w' : World} {B n c : Nat} {a : Option Addr} {gs : List Gr} (h : OwnZ w B a n c gs) (x : Ext w w') : OwnZ w' B a n c gs := ⟨h.1.ext x, fun q hq => (h.2 q hq).ext x⟩
theorem OwnZ.mono {w : World} {B B' n c : Nat} {a : Option Addr} {gs : List Gr} (h : OwnZ w B a n c gs) (hb : B' ≤ B) : OwnZ w B' a n c gs := ⟨h.1.mono hb, fun q hq => (h.2 q hq).mono hb⟩
theorem OwnZ.isNil (w : World) (B : Nat) : OwnZ w B none 0 0 [] := ⟨OwnG.isNil _ _ _ _, by simp⟩
theorem OwnZ.rd {w : World} {B n c : Nat} {a : Option Addr} {gs : List Gr} (h : OwnZ w B a n c gs) : RdGr w a n (gzs gs) := ⟨gs, h.1.rd, fun q hq => (h.2 q hq).rd, rfl⟩
theorem OwnZ.snoc {w w' : World} {B n c c' : Nat} {a a' : Option Addr} {gs : List Gr} {q : Gr} (h : OwnZ w B a n c gs) (hq : OwnI w B q.at_ q.zs.length q.cp q.zs)
    (hrow : OwnG layGr 25 w' B a' (n + 1) c' (gs ++ [q])) (hg : w.grownBy w' (Value.slice a n c).ownBlock) : OwnZ w' B a' (n + 1) c' (gs ++ [q]) := by
  refine ⟨hrow, fun p hp => ?_⟩
  rcases List.mem_append.1 hp with m | e
  · exact ⟨own_grown (h.2 p m).1 hg fun j hj e => own_apart (h.2 p m).1 h.1.1 (Ne.symm kind_ne) hj e.symm, (h.2 p m).2⟩
  · obtain rfl := List.mem_singleton.1 e
    exact ⟨own_grown hq.1 hg fun j hj e => own_apart hq.1 h.1.1 (Ne.symm kind_ne) hj e.symm, hq.2⟩
theorem Tryz.info_sliceI : (Tryz.prog.info? 25).map (fun i => (i.zero, i.size, i.bytes)) = some (some (.slice none 0 0), 1, 24) := by kernel_rfl
/-- What the spelling of a phrase returns. -/
def RetZ (w : World) (o : Option (List (List Int))) (e : Ending) (w' : World) : Prop :=
  ∃ (a : Option Addr) (c : Nat), e = .returned (.tuple #[.slice a (o.getD []).length c, .bool o.isSome]) ∧ RdGr w' a (o.getD []).length (o.getD []) ∧ Ext w w'

set_option maxRecDepth 100000 in
set_option maxHeartbeats 1000000 in
theorem spelled_any (a : Option Addr) (n c : Nat) (s : ByteArray) (ss : List ByteArray) (w : World) (hr : RdS w a n ss) (hs : s.size ≤ 1073741824) (hl : lettersOk ss) (hmax : MaxW w) :
    Calls Tryz.prog 34 #[.slice a n c, .string s] w (RetZ w (spellsO ss (splitC 32 s))) := by
  have hnum := splitC_num (c := 32) (s := s)
  go_enter Tryz.func34, Tryz.ntmps34
  go_wp2_with fail
  refine (wordsOf_any _ _ hs hmax).mono ?_
  rintro e w1 ⟨v, rfl, a1, n1, c1, rfl, o1, x1⟩
  have r1 := o1.rd
  have hln := r1.len
  have hle1 := r1.le
  clear o1
  generalize hus : splitC 32 s = us at r1 hln hnum
  go_wp2
  go_loopw [6, 14] (fun v i wr => ∃ (k : Nat) (gs : List Gr) (a2 : Option Addr) (c2 : Nat), k ≤ n1 ∧ i = .int .i64 k ∧ v = .slice a2 k c2 ∧ gs.length = k ∧ (∀ j, j < k → spellO ss (nthS us j) = (gzs gs)[j]?) ∧ OwnZ wr w1.heap.size a2 k c2 gs ∧ Ext w1 wr) (fun _ i _ => n1 - (intOf i).toNat)
  case atStart => exact ⟨0, [], none, 0, Nat.zero_le _, rfl, rfl, rfl, (fun j hj => by omega), OwnZ.isNil _ _, Ext.refl _⟩
  case round =>
    obtain ⟨k, gs, a2, c2, hk, rfl, rfl, hgl, hall, ho, hx⟩ := hrel
    have HA := Lib.hid hall
    clear hall
    by_cases hlt : k < n1
    · obtain ⟨b, o, rfl, hbl, hc⟩ := (r1.ext hx).at (by omega)
      have hck := hc k hlt
      have hsz := r1.size hlt
      have hki : (k : Int) < n1 := by omega
      clear hc
      go_wp2_with fail
      refine (implSpell_any _ _ _ _ _ _ ((hr.ext x1).ext hx) hsz hl).mono ?_
      rintro e w2 ⟨v, rfl, a3, c3, rfl, o3, x3⟩
      cases hsp : spellO ss (nthS us k)
      · have HE := Lib.hid (spellsO_none (by omega) hsp)
        clear hsp
        simp only [Option.isSome_none, Option.getD_none, List.length_nil]
        go_wp2
        go_ret2
        rw [hus, HE.out]
        exact ⟨none, 0, rfl, (OwnZ.isNil _ 0).rd, x1.trans (hx.trans x3)⟩
      · rename_i z
        rw [hsp] at o3
        have HE := Lib.hid hsp
        clear hsp
        simp only [Option.isSome_some, Option.getD_some] at o3 ⊢
        have hoE := ho.ext x3
        have hxE := hx.trans x3
        have hw1 : w1.heap.size ≤ w2.heap.size := hxE.size
        have o3' := o3.mono hx.size
        clear ho hx o3 x3 hck
        go_wp2_with (first | (at_builtin; refine wpList_appG layGr rfl _ _ 62 25 rfl Tryz.underlying62 (.slice none 0 0) 24 Tryz.info_sliceI rfl (by decide) w1.heap.size _ k _ gs rfl (hoE.1.ext ((Ext.refl _).alloc _)) _ 1 _ [⟨a3, c3, z⟩] rfl (RdG.new1 layGr _ _ _ rfl _) (by omega) (by simp; omega) ?_; intro a4 c4 w4 hown hgrow; have HO := Lib.hid (And.intro (OwnZ.snoc (hoE.ext ((Ext.refl _).alloc _)) (o3'.ext ((Ext.refl _).alloc _)) hown hgrow) (hxE.appG hoE.1 (Nat.le_refl _) hgrow)); clear hown hgrow))
        go_roundw
        case rel =>
          refine ⟨k + 1, gs ++ [⟨a3, c3, z⟩], a4, c4, by omega, by go_num, rfl, by simp [hgl], fun j hj => ?_, HO.out.1, HO.out.2⟩
          by_cases e : j = k
          · subst e; rw [HE.out]; simp [gzs, hgl]
          · rw [HA.out j (by omega)]; simp [gzs, List.getElem?_append, hgl, show j < k from by omega]
        case measure => simp [intOf]; omega
    · obtain rfl : k = n1 := by omega
      have hz : spellsO ss us = some (gzs gs) := by
        rw [spellsO_some fun j hj => by rw [HA.out j (by omega), List.getElem?_eq_getElem (by rw [gzs_len]; omega)]; rfl]
        congr 1
        apply List.ext_getElem (by rw [List.length_map, gzs_len]; omega)
        intro j h1 h2
        have hj : j < us.length := by simpa using h1
        rw [List.getElem_map, sp1, ← nthS_eq hj, HA.out j (by omega), List.getElem?_eq_getElem h2]
        rfl
      have HZ := Lib.hid hz
      clear hz
      go_wp2
      go_ret2
      rw [hus, HZ.out]
      exact ⟨a2, c2, by rw [Option.getD_some, gzs_len, hgl]; rfl, by rw [Option.getD_some, gzs_len, hgl]; exact ho.rd, x1.trans hx⟩

/-! The reference. -/
def dropI (ig zs : List Int) : List Int := zs.filter fun x => !hasI ig x
def spE (ss : List ByteArray) (s : ByteArray) (ig : List Int) : List (List Int) := (phraseT s).map fun u => dropI ig (sp1 ss u)
theorem drop_in {ig zs : List Int} {k : Nat} (hk : k < zs.length) (h : hasI ig (nth zs k) = false) : dropI ig (zs.take (k + 1)) = dropI ig (zs.take k) ++ [nth zs k] := by
  rw [List.take_succ_eq_append_getElem hk, dropI, List.filter_append, ← nth_eq hk]
  simp [h, dropI]
theorem drop_out {ig zs : List Int} {k : Nat} (hk : k < zs.length) (h : hasI ig (nth zs k) = true) : dropI ig (zs.take (k + 1)) = dropI ig (zs.take k) := by
  rw [List.take_succ_eq_append_getElem hk, dropI, List.filter_append, ← nth_eq hk]
  simp [h, dropI]
theorem drop_len (ig zs : List Int) : (dropI ig zs).length ≤ zs.length := List.length_filter_le _ _
def RetE (w : World) (zss : List (List Int)) (e : Ending) (w' : World) : Prop := ∃ (a : Option Addr) (c : Nat), e = .returned (.slice a zss.length c) ∧ RdGr w' a zss.length zss ∧ Ext w w'

set_option maxRecDepth 100000 in
set_option maxHeartbeats 2000000 in
theorem l06Spellings_any (a : Option Addr) (n c : Nat) (s : ByteArray) (a2 : Option Addr) (m c2 : Nat) (ss : List ByteArray) (ig : List Int) (w : World) (hr : RdS w a n ss) (hr2 : RdI w a2 m ig) (hs : s.size ≤ 1073741824) (hl : lettersOk ss) :
    Calls Tryz.prog 36 #[.slice a n c, .string s, .slice a2 m c2] w (RetE w (spE ss s ig)) := by
  go_enter Tryz.func36, Tryz.ntmps36
  go_wp2_with fail
  refine (l01Phrase_any _ _ hs).mono ?_
  rintro e w1 ⟨v, rfl, a1, n1, c1, rfl, o1, x1⟩
  have r1 := o1.rd
  have hln := r1.len
  have hle1 := r1.le
  clear o1
  have hZ : spE ss s ig = (phraseT s).map fun u => dropI ig (sp1 ss u) := rfl
  generalize hus : phraseT s = us at r1 hln hZ
  go_wp2
  go_loopw [9, 10] (fun v i wr => ∃ (k : Nat) (gs : List Gr) (a3 : Option Addr) (c3 : Nat), k ≤ n1 ∧ i = .int .i64 k ∧ v = .slice a3 k c3 ∧ gs.length = k ∧ gzs gs = (us.take k).map (fun u => dropI ig (sp1 ss u)) ∧ OwnZ wr w1.heap.size a3 k c3 gs ∧ Ext w1 wr) (fun _ i _ => n1 - (intOf i).toNat)
  case atStart => exact ⟨0, [], _, 0, Nat.zero_le _, rfl, rfl, rfl, rfl, ⟨OwnG.lit layGr 25 w1 (Nat.le_refl _) [] #[] rfl (by simp), by simp⟩, (Ext.refl _).alloc _⟩
  case round =>
    obtain ⟨k, gs, a3, c3, hk, rfl, rfl, hgl, hgz, ho, hx⟩ := hrel
    have HA := Lib.hid hgz
    clear hgz
    by_cases hlt : k < n1
    · obtain ⟨b, o, rfl, hbl, hc⟩ := (r1.ext hx).at (by omega)
      have hck := hc k hlt
      have hsz := r1.size hlt
      have hki : (k : Int) < n1 := by omega
      clear hc
      go_wp2_with fail
      refine (l03Spell_any _ _ _ _ _ _ ((hr.ext x1).ext hx) hsz hl).mono ?_
      rintro e w2 ⟨v, rfl, a4, c4, rfl, o4, x4⟩
      have hstep : (us.take (k + 1)).map (fun u => dropI ig (sp1 ss u)) = (us.take k).map (fun u => dropI ig (sp1 ss u)) ++ [dropI ig ((spellO ss (nthS us k)).getD [])] := by
        rw [List.take_succ_eq_append_getElem (by omega), List.map_append, ← nthS_eq (by omega)]; rfl
      have HS := Lib.hid hstep
      clear hstep
      have r4 := o4.rd
      clear o4
      generalize (spellO ss (nthS us k)).getD [] = z at r4 HS ⊢
      have hoE := ho.ext x4
      have hxE := hx.trans x4
      have hr2E := ((hr2.ext x1).ext hx).ext x4
      have hlz := r4.le
      clear ho hx x4 hck
      have HO := Lib.hid (And.intro hoE (And.intro hxE (And.intro hr2E r4)))
      clear hoE hxE hr2E r4
      go_wp2
      go_loopw [13, 14] (fun v i wr => ∃ (j : Nat) (l : List Int) (a5 : Option Addr) (c5 : Nat), j ≤ z.length ∧ i = .int .i64 j ∧ v = .slice a5 l.length c5 ∧ l = dropI ig (z.take j) ∧ OwnI wr w2.heap.size a5 l.length c5 l ∧ Ext w2 wr) (fun _ i _ => z.length - (intOf i).toNat)
      case atStart => exact ⟨0, [], _, 0, Nat.zero_le _, rfl, rfl, rfl, ⟨OwnI.lit0 w2 (Nat.le_refl _), by decide⟩, (Ext.refl _).alloc _⟩
      case round =>
        obtain ⟨j, l, a5, c5, hj, rfl, rfl, hl5, ho5, hx5⟩ := hrel
        have hll : l.length ≤ j := by rw [hl5]; exact Nat.le_trans (drop_len _ _) (by rw [List.length_take]; omega)
        have HL := Lib.hid hl5
        clear hl5
        by_cases hjl : j < z.length
        · obtain ⟨b4, o4, rfl, hb4, hc4⟩ := (HO.out.2.2.2.ext hx5).at (by omega)
          have hcj := hc4 j hjl
          have hji : (j : Int) < z.length := by omega
          clear hc4
          cases hh : hasI ig (nth z j)
          · have HE := Lib.hid (And.intro hh (drop_in hjl hh))
            clear hh
            go_wp2_with (first | (go_at_call 63; refine (l01Has_any _ _ _ _ _ _ (HO.out.2.2.1.ext hx5)).mono ?_; rintro e w' ⟨rfl, rfl⟩; rw [HE.out.1]) | (at_builtin; refine wpList_appI rfl _ _ rfl w2.heap.size _ l.length l rfl (ho5.alloc _) _ 1 _ [nth z j] rfl (RdI.new1 _ _ _) (by omega) (hx5.le_alloc _) ?_; intro a6 c6 w6 hown hgrow; have hb6 := hx5.app ho5 (Nat.le_refl _) hgrow; have HQ := Lib.hid hown; clear hown))
            go_roundw
            case rel => exact ⟨j + 1, l ++ [nth z j], a6, c6, by omega, by go_num, by simp, by rw [HE.out.2, ← HL.out], by simpa using HQ.out, hb6⟩
            case measure => simp [intOf]; omega
          · have HE := Lib.hid (And.intro hh (drop_out hjl hh))
            clear hh
            go_wp2_with (go_at_call 63; refine (l01Has_any _ _ _ _ _ _ (HO.out.2.2.1.ext hx5)).mono ?_; rintro e w' ⟨rfl, rfl⟩; rw [HE.out.1])
            go_roundw
            case rel => exact ⟨j + 1, l, a5, c5, by omega, by go_num, rfl, by rw [HE.out.2, ← HL.out], ho5, hx5⟩
            case measure => simp [intOf]; omega
        · obtain rfl : j = z.length := by omega
          have hle : l = dropI ig z := by rw [HL.out, List.take_length]
          have HE := Lib.hid hle
          clear hle
          have hoE := HO.out.1.ext hx5
          have hxE := HO.out.2.1.trans hx5
          have hw2 := HO.out.2.1.size
          have o5' := ho5.mono hw2
          have hwr := hxE.size
          clear ho5 hx5
          go_wp2_with (first | (at_builtin; refine wpList_appG layGr rfl _ _ 62 25 rfl Tryz.underlying62 (.slice none 0 0) 24 Tryz.info_sliceI rfl (by decide) w1.heap.size _ k _ gs rfl (hoE.1.ext ((Ext.refl _).alloc _)) _ 1 _ [⟨a5, c5, l⟩] rfl (RdG.new1 layGr _ _ _ rfl _) (by omega) (by simp; omega) ?_; intro a6 c6 w6 hown hgrow; have HQ := Lib.hid (And.intro (OwnZ.snoc (hoE.ext ((Ext.refl _).alloc _)) (o5'.ext ((Ext.refl _).alloc _)) hown hgrow) (hxE.appG hoE.1 (Nat.le_refl _) hgrow)); clear hown hgrow))
          go_roundw
          case rel => exact ⟨k + 1, gs ++ [⟨a5, c5, l⟩], a6, c6, by omega, by go_num, rfl, by simp [hgl], by rw [HS.out, ← HA.out, ← HE.out]; simp [gzs], HQ.out.1, HQ.out.2⟩
          case measure => simp [intOf]; omega
    · obtain rfl : k = n1 := by omega
      have hz : gzs gs = spE ss s ig := by rw [HA.out, hZ, List.take_of_length_le (by omega)]
      have hlz : (spE ss s ig).length = k := by rw [← hz, gzs_len, hgl]
      have HZ := Lib.hid (And.intro hz hlz)
      clear hz hlz hZ
      go_wp2
      go_ret
      refine ⟨a3, c3, by rw [HZ.out.2]; rfl, ?_, x1.trans hx⟩
      rw [HZ.out.2, ← HZ.out.1]
      exact ho.rd

end Go.Proofs.YtdicjpkcgeofjaaGreatDoor
