/-
  The reference's source of draws: a struct of three cells behind a pointer; what it hands out lies within the bound asked for.
-/
import Derived.Test.YtdicjpkcgeofjaaGreatDoorM0
namespace Go.Proofs.YtdicjpkcgeofjaaGreatDoor
open Go.RowKit

/-- A source of draws in block g: the code, how much of it is used up, the seed. -/
structure SrcAt (w : World) (g : Nat) (a : Option Addr) (n c : Nat) (bs : List Int) (i : Nat) (sd : Int) : Prop where
  block : w.heap[g]? = some (.cells #[.slice a n c, .int .i64 i, .int .i64 sd] 70 (0, 0))
  len : bs.length = n
  le : n ≤ 4294967296
  pos : i ≤ n
  lo : 0 ≤ sd
  hi : sd < 2147483647
  byte : ∀ k, 0 ≤ nth bs k ∧ nth bs k ≤ 255
  rd : bs = [] ∨ ∃ b o, a = some ⟨b, o, none⟩ ∧ b < g ∧ ∀ j u, (bs.map (Value.int .u8))[j]? = some u → w.cell? ⟨b, o + j, none⟩ = some u
def Src (w : World) (g : Nat) : Prop := ∃ a n c bs i sd, SrcAt w g a n c bs i sd

theorem SrcAt.cell {w : World} {g : Nat} {a : Option Addr} {n c : Nat} {bs : List Int} {i : Nat} {sd : Int} (h : SrcAt w g a n c bs i sd) :
    w.cell? ⟨g, 0, none⟩ = some (.slice a n c) ∧ w.cell? ⟨g, 1, none⟩ = some (.int .i64 i) ∧ w.cell? ⟨g, 2, none⟩ = some (.int .i64 sd) ∧ (∀ j, w.frozen? ⟨g, j, none⟩ = false) ∧ g < w.heap.size := by
  refine ⟨?_, ?_, ?_, fun j => ?_, (Array.getElem?_eq_some_iff.1 h.block).1⟩
  · simp [World.cell?, h.block]
  · simp [World.cell?, h.block]
  · simp [World.cell?, h.block]
  · exact frozen_of_row w g j _ _ h.block

theorem SrcAt.at {w : World} {g : Nat} {a : Option Addr} {n c : Nat} {bs : List Int} {i : Nat} {sd : Int} (h : SrcAt w g a n c bs i sd) (hn : 0 < n) :
    ∃ b o, a = some ⟨b, o, none⟩ ∧ b < g ∧ ∀ k, k < n → w.cell? ⟨b, o + k, none⟩ = some (.int .u8 (nth bs k)) := by
  rcases h.rd with e | ⟨b, o, ha, hb, hc⟩
  · have := h.len; rw [e] at this; simp at this; omega
  · exact ⟨b, o, ha, hb, fun k hk => hc k _ (by have := h.len; simp [nth, show k < bs.length by omega])⟩

/-- The source's own cells are written: the seed, the place. -/
theorem SrcAt.setSeed {w : World} {g : Nat} {a : Option Addr} {n c : Nat} {bs : List Int} {i : Nat} {sd : Int} (h : SrcAt w g a n c bs i sd) {s : Int} (h0 : 0 ≤ s) (h1 : s < 2147483647) :
    SrcAt (w.setCell ⟨g, 2, none⟩ (.int .i64 s)) g a n c bs i s where
  block := by rw [heap_setCell_same w g 2 _ _ _ h.block]; rfl
  len := h.len
  le := h.le
  pos := h.pos
  lo := h0
  hi := h1
  byte := h.byte
  rd := by
    rcases h.rd with e | ⟨b, o, rfl, hb, hc⟩
    · exact .inl e
    · refine .inr ⟨b, o, rfl, hb, fun j u hu => ?_⟩
      rw [World.cell?_of_block (w := w) (Below.heap_setCell _ _ _ _ (Nat.ne_of_lt hb))]
      exact hc j u hu
theorem SrcAt.setPos {w : World} {g : Nat} {a : Option Addr} {n c : Nat} {bs : List Int} {i : Nat} {sd : Int} (h : SrcAt w g a n c bs i sd) {k : Nat} (hk : k ≤ n) :
    SrcAt (w.setCell ⟨g, 1, none⟩ (.int .i64 k)) g a n c bs k sd where
  block := by rw [heap_setCell_same w g 1 _ _ _ h.block]; rfl
  len := h.len
  le := h.le
  pos := hk
  lo := h.lo
  hi := h.hi
  byte := h.byte
  rd := by
    rcases h.rd with e | ⟨b, o, rfl, hb, hc⟩
    · exact .inl e
    · refine .inr ⟨b, o, rfl, hb, fun j u hu => ?_⟩
      rw [World.cell?_of_block (w := w) (Below.heap_setCell _ _ _ _ (Nat.ne_of_lt hb))]
      exact hc j u hu
theorem SrcAt.drewN {w : World} {g : Nat} {a : Option Addr} {n c : Nat} {bs : List Int} {i : Nat} {sd : Int} (h : SrcAt w g a n c bs i sd) (k : Nat) : SrcAt (w.drewN k) g a n c bs i sd :=
  ⟨h.block, h.len, h.le, h.pos, h.lo, h.hi, h.byte, h.rd⟩

theorem Wrote.drewN {w w' : World} {a : Option Addr} (h : Wrote w w' a) (n : Nat) : Wrote w (w'.drewN n) a := ⟨h.os, h.tape, h.output, h.size, h.block⟩

theorem SrcAt.of_heap {w w' : World} {g : Nat} {a : Option Addr} {n c : Nat} {bs : List Int} {i : Nat} {sd : Int} (h : SrcAt w g a n c bs i sd) (e : w'.heap = w.heap) : SrcAt w' g a n c bs i sd where
  block := by rw [e]; exact h.block
  len := h.len
  le := h.le
  pos := h.pos
  lo := h.lo
  hi := h.hi
  byte := h.byte
  rd := by
    rcases h.rd with e' | ⟨b, o, ha, hb, hc⟩
    · exact .inl e'
    · exact .inr ⟨b, o, ha, hb, fun j u hu => by rw [World.cell?_of_block (w := w) (by rw [e])]; exact hc j u hu⟩
theorem Wrote.of_heap {w w1 w2 : World} {a : Option Addr} (h : Wrote w w1 a) (e : w2.heap = w1.heap) (o : w2.os = w1.os) (t : w2.tape = w1.tape) (p : w2.output = w1.output) : Wrote w w2 a :=
  ⟨o.trans h.os, t.trans h.tape, p.trans h.output, by rw [e]; exact h.size, fun k hlt hk => by rw [e]; exact h.block k hlt hk⟩

/-- What a draw leaves: the source, turned; nothing else. -/
def Drawn (w : World) (g : Nat) (w' : World) : Prop := Src w' g ∧ Wrote w w' (some ⟨g, 0, none⟩)

set_option maxHeartbeats 1000000 in
theorem l01Next_any (g : Nat) (m : Int) (w : World) (hs : Src w g) (hm : m ≤ 4294967296) :
    Calls Tryz.prog 28 #[.pointer (some ⟨g, 0, none⟩), .int .i64 m] w fun e w' => ∃ x : Int, e = .returned (.int .i64 x) ∧ 0 ≤ x ∧ (x < m ∨ x = 0) ∧ Drawn w g w' := by
  by_cases h1 : m ≤ 1
  · go_enter Tryz.func28, Tryz.ntmps28
    go_wp2
    go_ret
    exact ⟨0, rfl, by decide, .inr rfl, hs, Wrote.refl _ _⟩
  · obtain ⟨a, n, c, bs, i, sd, hat⟩ := hs
    obtain ⟨c0, c1, c2, hf, hg⟩ := hat.cell
    have f1 := hf 1
    have f2 := hf 2
    have l0 := hat.lo
    have l1 := hat.hi
    have l2 := hat.le
    have l3 := hat.pos
    clear hf
    have e0 : 0 ≤ (sd * 48271 + 29) % 2147483647 := by omega
    have e1 : (sd * 48271 + 29) % 2147483647 < 2147483647 := by omega
    have HS := Lib.hid (hat.setSeed e0 e1)
    by_cases h2 : i < n
    · obtain ⟨b, o, rfl, hbg, hc⟩ := hat.at (by omega)
      have hck := hc i h2
      obtain ⟨y0, y1⟩ := hat.byte i
      have hne : b ≠ g := by omega
      have hp : SrcAt ((w.setCell ⟨g, 2, none⟩ (.int .i64 ((sd * 48271 + 29) % 2147483647))).setCell ⟨g, 1, none⟩ (.int .i64 ((i : Int) + 1))) g (some ⟨b, o, none⟩) n c bs (i + 1) ((sd * 48271 + 29) % 2147483647) := by
        simpa using HS.out.setPos (k := i + 1) (by omega)
      have HP := Lib.hid (And.intro hp (((Wrote.refl w (some ⟨g, 0, none⟩)).setCell 2 (.int .i64 ((sd * 48271 + 29) % 2147483647))).setCell 1 (.int .i64 ((i : Int) + 1))))
      clear hc e0 e1 hp
      have hi2 : (i : Int) < n := by omega
      have hen : ∀ y : Int, 0 ≤ y % m ∧ y % m < m := fun y => ⟨Int.emod_nonneg _ (by omega), Int.emod_lt_of_pos _ (by omega)⟩
      have HE := Lib.hid hen
      clear hen
      by_cases h3 : m ≤ 256
      · cases h4 : ((((i : Int) + 1) % 2) == 0)
        all_goals
          go_enter Tryz.func28, Tryz.ntmps28
          go_wp2
          go_quiet (fail)
          go_wp2
          go_quiet (fail)
          go_wp2
        · go_ret
          exact ⟨_, rfl, (HE.out _).1, .inl (HE.out _).2, ⟨_, _, _, _, _, _, HP.out.1.of_heap rfl⟩, HP.out.2.of_heap rfl rfl rfl rfl⟩
        · go_quiet (fail)
          go_wp2
          go_ret
          exact ⟨_, rfl, (HE.out _).1, .inl (HE.out _).2, ⟨_, _, _, _, _, _, HP.out.1.of_heap rfl⟩, HP.out.2.of_heap rfl rfl rfl rfl⟩
      · go_enter Tryz.func28, Tryz.ntmps28
        go_wp2
        go_quiet (fail)
        go_wp2
        go_quiet (fail)
        go_wp2
        go_ret
        exact ⟨_, rfl, (HE.out _).1, .inl (HE.out _).2, ⟨_, _, _, _, _, _, HP.out.1.of_heap rfl⟩, HP.out.2.of_heap rfl rfl rfl rfl⟩
    · clear e0 e1
      go_enter Tryz.func28, Tryz.ntmps28
      go_wp2
      go_quiet (fail)
      go_wp2
      go_ret
      exact ⟨_, rfl, Int.emod_nonneg _ (by omega), .inl (Int.emod_lt_of_pos _ (by omega)), ⟨_, _, _, _, _, _, HS.out.drewN _⟩, ((Wrote.refl _ _).setCell 2 _).drewN _⟩

/-- A slice of bytes, as it came in. -/
structure RdBy (w : World) (a : Option Addr) (n : Nat) (bs : List Int) : Prop where
  len : bs.length = n
  le : n ≤ 4294967296
  byte : ∀ k, 0 ≤ nth bs k ∧ nth bs k ≤ 255
  rd : Rd w a (bs.map (Value.int .u8))
theorem RdBy.ext {w w' : World} {a : Option Addr} {n : Nat} {bs : List Int} (h : RdBy w a n bs) (x : Ext w w') : RdBy w' a n bs :=
  ⟨h.len, h.le, h.byte, h.rd.ext x⟩
theorem SrcAt.start {w : World} {a : Option Addr} {n : Nat} {bs : List Int} (h : RdBy w a n bs) (c : Nat) :
    SrcAt (w.alloc (.cells #[.slice a n c, .int .i64 0, .int .i64 51031] 70)) w.heap.size a n c bs 0 51031 where
  block := heap_alloc_new w _
  len := h.len
  le := h.le
  pos := Nat.zero_le _
  lo := by decide
  hi := by decide
  byte := h.byte
  rd := by
    rcases h.rd with e | ⟨b, o, ha, hb, hc⟩
    · exact .inl (by simpa using e)
    · exact .inr ⟨b, o, ha, hb, fun j u hu => by rw [Below.cell ((Ext.refl w).alloc _) (p := ⟨b, o + j, none⟩) hb]; exact hc j u hu⟩

theorem Still.ext_of {w w1 w2 : World} (h : Ext w w1) (e : w2.heap = w1.heap) (o : w2.os = w1.os) (t : w2.tape = w1.tape) (p : w2.output = w1.output) : Ext w w2 :=
  h.trans (Still.ext ⟨e, t, o, p⟩)

set_option maxHeartbeats 1000000 in
theorem l01From_any (a : Option Addr) (n c : Nat) (bs : List Int) (w : World) (hr : RdBy w a n bs) :
    Calls Tryz.prog 19 #[.slice a n c] w fun e w' => ∃ g, e = .returned (.pointer (some ⟨g, 0, none⟩)) ∧ w.heap.size ≤ g ∧ Src w' g ∧ Ext w w' := by
  have hm := hr.le
  go_enter Tryz.func19, Tryz.ntmps19
  go_wp2
  go_loopw [4] (fun i wr => ∃ (k : Nat) (sd : Int), k ≤ n ∧ i = .int .i64 k ∧ SrcAt wr w.heap.size a n c bs 0 sd ∧ Ext w wr) (fun i _ => n - (intOf i).toNat)
  case atStart => exact ⟨0, _, Nat.zero_le _, rfl, SrcAt.start hr c, (Ext.refl _).alloc _⟩
  case round =>
    obtain ⟨k, sd, hk, rfl, hat, hx⟩ := hrel
    by_cases h1 : k < n
    · by_cases h2 : k < 64
      · obtain ⟨b, o, rfl, hbg, hc⟩ := hat.at (by omega)
        have hck := hc k h1
        obtain ⟨y0, y1⟩ := hat.byte k
        obtain ⟨c0, c1, c2, hf, hg⟩ := hat.cell
        have f2 := hf 2
        have l0 := hat.lo
        have l1 := hat.hi
        have hne : b ≠ w.heap.size := by omega
        have hki : (k : Int) < n := by omega
        have e0 : 0 ≤ (sd * 73 + nth bs k) % 2147483647 := by omega
        have e1 : (sd * 73 + nth bs k) % 2147483647 < 2147483647 := by omega
        have HS := Lib.hid (And.intro (hat.setSeed e0 e1) (hx.setCell (p := ⟨w.heap.size, 2, none⟩) (Nat.le_refl _) (.int .i64 ((sd * 73 + nth bs k) % 2147483647))))
        clear hc hf e0 e1 hx hat
        go_wp2
        go_region
        all_goals
          go_wp2
          go_roundw
          case rel => exact ⟨k + 1, _, by omega, by go_num, HS.out.1.of_heap rfl, Still.ext_of HS.out.2 rfl rfl rfl rfl⟩
          case measure => simp [intOf]; omega
      · go_wp2
        go_ret
        exact ⟨_, rfl, Nat.le_refl _, ⟨_, _, _, _, _, _, hat⟩, hx⟩
    · go_wp2
      go_ret
      exact ⟨_, rfl, Nat.le_refl _, ⟨_, _, _, _, _, _, hat⟩, hx⟩

set_option maxHeartbeats 400000 in
theorem l01Pick_any (g : Nat) (a : Option Addr) (n c : Nat) (zs : List Int) (w : World) (hs : Src w g) (hr : RdI w a n zs) (hn : 0 < n) (ha : ∀ ad, a = some ad → ad.block ≠ g) :
    Calls Tryz.prog 41 #[.pointer (some ⟨g, 0, none⟩), .slice a n c] w fun e w' => ∃ x : Int, e = .returned (.int .i64 x) ∧ x ∈ zs ∧ Drawn w g w' := by
  have hm := hr.le
  obtain ⟨b, o, rfl, hbl, hc⟩ := hr.at hn
  have hbg := ha _ rfl
  simp only at hbg
  have HC := Lib.hid hc
  have HL := Lib.hid hr.len
  clear hc
  go_enter Tryz.func41, Tryz.ntmps41
  go_wp2_with fail
  refine (l01Next_any _ _ _ hs (by omega)).mono ?_
  rintro e w1 ⟨x, rfl, hx0, hx1, hd⟩
  obtain ⟨k, rfl⟩ := Int.eq_ofNat_of_zero_le hx0
  have hk : k < n := by omega
  have hck : w1.cell? ⟨b, o + k, none⟩ = some (.int .i64 (nth zs k)) := by
    rw [World.cell?_of_block (w := w) (hd.2.block b hbl (by rintro g' e; cases e; exact hbg))]
    exact HC.out k hk
  have HD := Lib.hid hd
  clear hd hx1
  go_wp2
  go_ret
  exact ⟨_, rfl, by rw [nth_eq (by rw [HL.out]; exact hk)]; exact List.getElem_mem _, HD.out⟩

end Go.Proofs.YtdicjpkcgeofjaaGreatDoor
