/-
  Texts of this claim, put together.
-/
import Derived.Test.YtdicjpkcgeofjaaGreatDoorRows
import Derived.WalkKit
import Derived.WalkSpells
import Derived.WalkLawsBesides
import Derived.Lib.Hide
import Derived.Deep.QuietTactic
import Derived.BigQuiet
import Derived.Deep.Upon
import Derived.Deep.RegionLaw
import Derived.Lib.SliceRun
import Derived.Lib.Split
import Derived.WideShapes
import Derived.RegionTactic
import Derived.Deep.RegionHeld
import Derived.Lib.ItoaNum
import Derived.Lib.ParseIntBTie
import Derived.Lib.Atoi
import Derived.Lib.IndexMore
import Derived.ProofKit
import Derived.OpenShut
import Derived.ShutString
import Derived.ChangeOld
import Derived.Below

section
namespace Go.Proofs.YtdicjpkcgeofjaaGreatDoor

/-- The element with an index (0 beyond the end), behind a name. -/
def nth (zs : List Int) (k : Nat) : Int := zs.getD k 0
theorem nth_eq {zs : List Int} {k : Nat} (h : k < zs.length) : nth zs k = zs[k] := by simp [nth, h]

/-- x lies within lo and hi. -/
def inB (x lo hi : Int) : Bool := decide (lo ≤ x) && decide (x ≤ hi)
theorem inB_iff {x lo hi : Int} : inB x lo hi = true ↔ lo ≤ x ∧ x ≤ hi := by simp [inB]
theorem inB_yes {x lo hi : Int} (h1 : lo ≤ x) (h2 : x ≤ hi) : inB x lo hi = true := inB_iff.2 ⟨h1, h2⟩
theorem inB_not {x lo hi : Int} : inB x lo hi = false ↔ ¬ (lo ≤ x ∧ x ≤ hi) := by rw [← inB_iff]; simp

/-- All of zs lie within lo and hi. -/
def allIn (zs : List Int) (lo hi : Int) : Bool := zs.all fun z => inB z lo hi
theorem allIn_false {zs : List Int} {lo hi : Int} {k : Nat} (hk : k < zs.length) (h : inB (nth zs k) lo hi = false) : allIn zs lo hi = false := by
  rw [allIn, List.all_eq_false]
  exact ⟨zs[k], List.getElem_mem hk, by simpa [nth_eq hk] using h⟩
theorem allIn_true {zs : List Int} {lo hi : Int} (h : ∀ k, k < zs.length → inB (nth zs k) lo hi = true) : allIn zs lo hi = true := by
  rw [allIn, List.all_eq_true]
  intro z hz
  obtain ⟨k, hk, rfl⟩ := List.getElem_of_mem hz
  simpa [nth_eq hk] using h k hk

/-- x stands in zs. -/
def hasI (zs : List Int) (x : Int) : Bool := zs.contains x
theorem mem_nth {zs : List Int} {x : Int} {k : Nat} (hk : k < zs.length) (h : nth zs k = x) : hasI zs x = true := by
  rw [hasI, List.contains_iff_mem, ← h, nth_eq hk]
  exact List.getElem_mem hk
theorem not_mem_nth {zs : List Int} {x : Int} (h : ∀ k, k < zs.length → nth zs k ≠ x) : hasI zs x = false := by
  rw [hasI, ← Bool.not_eq_true, List.contains_iff_mem]
  intro hx
  obtain ⟨k, hk, e⟩ := List.getElem_of_mem hx
  exact h k hk (by rw [nth_eq hk, e])

/-- The first place of x, or -1. -/
def idxOf (zs : List Int) (x : Int) : Int := match zs.findIdx? (· == x) with | some k => (k : Int) | none => -1
theorem idxOf_at {zs : List Int} {x : Int} {k : Nat} (hk : k < zs.length) (h : nth zs k = x) (hp : ∀ j, j < k → nth zs j ≠ x) : idxOf zs x = k := by
  have e : zs.findIdx? (· == x) = some k := by
    rw [List.findIdx?_eq_some_iff_getElem]
    refine ⟨hk, by rw [nth_eq hk] at h; simp [h], fun j hj => ?_⟩
    have := hp j hj
    rw [nth_eq (by omega)] at this
    simpa using this
  rw [idxOf, e]
theorem idxOf_none {zs : List Int} {x : Int} (hp : ∀ j, j < zs.length → nth zs j ≠ x) : idxOf zs x = -1 := by
  have e : zs.findIdx? (· == x) = none := by
    rw [List.findIdx?_eq_none_iff]
    intro y hy
    obtain ⟨j, hj, rfl⟩ := List.getElem_of_mem hy
    have := hp j hj
    rw [nth_eq hj] at this
    simpa using this
  rw [idxOf, e]
theorem idxOf_ge {zs : List Int} {x : Int} : decide (0 ≤ idxOf zs x) = hasI zs x := by
  unfold hasI
  by_cases h : x ∈ zs
  · have : zs.findIdx? (· == x) ≠ none := by
      intro e
      rw [List.findIdx?_eq_none_iff] at e
      simpa using e x h
    obtain ⟨k, hk⟩ := Option.ne_none_iff_exists'.1 this
    rw [idxOf, hk]
    simp [h]
  · have : zs.findIdx? (· == x) = none := by
      rw [List.findIdx?_eq_none_iff]
      intro y hy
      simp
      rintro rfl
      exact h hy
    rw [idxOf, this]
    simp [h]

/-- The marks k, k+1, .. . -/
def marks (k : Int) (n : Nat) : List Int := (List.range n).map fun (i : Nat) => k + (i : Int)
theorem marks_len (k : Int) (n : Nat) : (marks k n).length = n := by simp [marks]
theorem marks_get (k : Int) (n i : Nat) (h : i < n) : nth (marks k n) i = k + i := by simp [nth, marks, h]

end Go.Proofs.YtdicjpkcgeofjaaGreatDoor
end

section
namespace Go.Proofs.YtdicjpkcgeofjaaGreatDoor
open Go.RowKit

/-- All that was there in w is there in w', unchanged. -/
def Ext (w w' : World) : Prop := Below w.heap.size w w'

theorem Ext.refl (w : World) : Ext w w := Below.refl _ _
theorem Ext.trans {a b c : World} (h : Ext a b) (k : Ext b c) : Ext a c := Below.trans h (Below.mono k h.size)
theorem Ext.size {a b : World} (h : Ext a b) : a.heap.size ≤ b.heap.size := Below.size h
theorem Ext.drew {a b : World} (h : Ext a b) : Ext a b.drew := Below.drew h
theorem Ext.alloc {a b : World} (h : Ext a b) (o : Obj) : Ext a (b.alloc o) := Below.alloc h h.size o
theorem Ext.setCell {a b : World} (h : Ext a b) {p : Addr} (hp : a.heap.size ≤ p.block) (u : Value) : Ext a (b.setCell p u) := Below.setCell h hp u
theorem Ext.grown {a b c : World} {row : Option Nat} (h : Ext a b) (hg : b.grownBy c row) (hr : ∀ k, row = some k → a.heap.size ≤ k) : Ext a c := Below.grown h hg h.size hr
theorem Ext.grown0 {a b c : World} (h : Ext a b) (hg : b.grownBy c none) : Ext a c := h.grown hg (by simp)
theorem Ext.wrote {a b c : World} {g : Nat} (h : Ext a b) (hg : b.grownBy c (some g)) (hr : a.heap.size ≤ g) : Ext a c := h.grown hg (by intro k e; cases e; exact hr)

/-- Neither blocks nor anything else has turned; at most some answers have been drawn. -/
def Still (w w' : World) : Prop := w'.heap = w.heap ∧ w'.tape = w.tape ∧ w'.os = w.os ∧ w'.output = w.output
theorem Still.refl (w : World) : Still w w := ⟨rfl, rfl, rfl, rfl⟩
theorem Still.drew {a b : World} (h : Still a b) : Still a b.drew := h
theorem Still.drewN {a b : World} (h : Still a b) (n : Nat) : Still a (b.drewN n) := h
theorem Still.trans {a b c : World} (h : Still a b) (k : Still b c) : Still a c := ⟨k.1.trans h.1, k.2.1.trans h.2.1, k.2.2.1.trans h.2.2.1, k.2.2.2.trans h.2.2.2⟩
theorem Still.ext {a b : World} (h : Still a b) : Ext a b := ⟨h.2.2.1, h.2.1, h.2.2.2, by rw [h.1]; exact Nat.le_refl _, fun _ _ => by rw [h.1]⟩

/-- The cells xs lie, in w, from a slice's address on. -/
def Rd (w : World) (a : Option Addr) (xs : List Value) : Prop :=
  xs = [] ∨ ∃ b o, a = some ⟨b, o, none⟩ ∧ b < w.heap.size ∧ ∀ j u, xs[j]? = some u → w.cell? ⟨b, o + j, none⟩ = some u

theorem Rd.nil (w : World) (a : Option Addr) : Rd w a [] := .inl rfl

theorem Rd.pos {w : World} {a : Option Addr} {xs : List Value} (h : Rd w a xs) (hn : 0 < xs.length) : ∃ b o, a = some ⟨b, o, none⟩ ∧ b < w.heap.size ∧ ∀ j u, xs[j]? = some u → w.cell? ⟨b, o + j, none⟩ = some u := by
  rcases h with rfl | h
  · simp at hn
  · exact h

theorem Rd.ext {w w' : World} {a : Option Addr} {xs : List Value} (h : Rd w a xs) (hb : Ext w w') : Rd w' a xs := by
  rcases h with rfl | ⟨b, o, rfl, hlt, hc⟩
  · exact .inl rfl
  · exact .inr ⟨b, o, rfl, Nat.lt_of_lt_of_le hlt hb.size, fun j u hu => by rw [Below.cell hb (p := ⟨b, o + j, none⟩) hlt]; exact hc j u hu⟩

theorem Rd.cells {w : World} {a : Option Addr} {xs : List Value} (h : Rd w a xs) : ∀ ad, a = some ad → ∀ j u, xs[j]? = some u → w.cell? (ad.add j) = some u := by
  rcases h with rfl | ⟨b, o, rfl, _, hc⟩
  · simp
  · intro ad e j u hu
    cases e
    rw [Addr.add_lit]
    exact hc j u hu

/-- A slice of n ints reads as zs. -/
def RdI (w : World) (a : Option Addr) (n : Nat) (zs : List Int) : Prop := zs.length = n ∧ n ≤ 4294967296 ∧ Rd w a (zs.map (Value.int .i64))

theorem RdI.ext {w w' : World} {a : Option Addr} {n : Nat} {zs : List Int} (h : RdI w a n zs) (hb : Ext w w') : RdI w' a n zs := ⟨h.1, h.2.1, h.2.2.ext hb⟩
theorem RdI.nil (w : World) (a : Option Addr) : RdI w a 0 [] := ⟨rfl, by decide, .inl rfl⟩
theorem RdI.len {w : World} {a : Option Addr} {n : Nat} {zs : List Int} (h : RdI w a n zs) : zs.length = n := h.1
theorem RdI.le {w : World} {a : Option Addr} {n : Nat} {zs : List Int} (h : RdI w a n zs) : n ≤ 4294967296 := h.2.1

/-- One element of such a slice. -/
theorem RdI.at {w : World} {a : Option Addr} {n : Nat} {zs : List Int} (h : RdI w a n zs) (hn : 0 < n) : ∃ b o, a = some ⟨b, o, none⟩ ∧ b < w.heap.size ∧ ∀ k, k < n → w.cell? ⟨b, o + k, none⟩ = some (.int .i64 (nth zs k)) := by
  obtain ⟨b, o, ha, hb, hc⟩ := h.2.2.pos (by rw [List.length_map, h.1]; exact hn)
  exact ⟨b, o, ha, hb, fun k hk => hc k _ (by have := h.1; simp [nth, show k < zs.length by omega])⟩

/-- What the call itself made: a slice of n ints in a block from number B on. -/
def OwnI (w : World) (B : Nat) (a : Option Addr) (n c : Nat) (zs : List Int) : Prop := w.ownsRow B 2 1 (.slice a n c) n (zs.map (Value.int .i64)) ∧ n ≤ 4294967296

theorem own_addr {w : World} {B e sz n m c : Nat} {a : Option Addr} {xs : List Value} (h : w.ownsRow B e sz (.slice a n c) m xs) : a = none ∨ ∃ g, a = some ⟨g, 0, none⟩ := by
  rcases h.2 with ⟨h', _⟩ | ⟨g, cap, cur, h', _⟩
  · simp at h'; exact .inl h'.1
  · simp at h'; exact .inr ⟨g, h'.1⟩

theorem own_slice {w : World} {B e sz n : Nat} {v : Value} {xs : List Value} (h : w.ownsRow B e sz v n xs) : ∃ a c, v = .slice a n c := by
  rcases h.2 with ⟨rfl, rfl⟩ | ⟨g, cap, cur, rfl, _⟩
  · exact ⟨none, 0, rfl⟩
  · exact ⟨_, cap, rfl⟩

theorem own_rd {w : World} {B e sz n c : Nat} {a : Option Addr} {xs : List Value} (h : w.ownsRow B e sz (.slice a n c) n xs) : Rd w a xs := by
  rcases own_addr h with rfl | ⟨g, rfl⟩
  · rcases h.2 with ⟨_, rfl⟩ | ⟨g, cap, cur, h', _⟩
    · exact .inl (List.eq_nil_of_length_eq_zero (by simpa using h.1))
    · simp at h'
  · have hl := h.1
    by_cases h0 : n * sz = 0
    · exact .inl (List.eq_nil_of_length_eq_zero (by omega))
    · refine .inr ⟨g, 0, rfl, (h.lt g rfl).2, fun j u hu => ?_⟩
      have hj : j < n * sz := by rw [← hl]; exact (List.getElem?_eq_some_iff.1 hu).1
      rw [Nat.zero_add, h.cellAt j hj, hu]

theorem OwnI.rd {w : World} {B n c : Nat} {a : Option Addr} {zs : List Int} (h : OwnI w B a n c zs) : RdI w a n zs :=
  ⟨by simpa using h.1.1, h.2, own_rd h.1⟩

theorem own_ext {w w' : World} {B e sz n : Nat} {v : Value} {xs : List Value} (h : w.ownsRow B e sz v n xs) (hb : Ext w w') : w'.ownsRow B e sz v n xs := by
  refine ⟨h.1, ?_⟩
  rcases h.2 with hn | ⟨g, cap, cur, rfl, hbg, hgg, rest⟩
  · exact .inl hn
  · refine .inr ⟨g, cap, cur, rfl, hbg, ?_, rest⟩
    rw [hb.block g (Array.getElem?_eq_some_iff.1 hgg).1]
    exact hgg
theorem own_mono {w : World} {B B' e sz n : Nat} {v : Value} {xs : List Value} (h : w.ownsRow B e sz v n xs) (hb : B' ≤ B) : w.ownsRow B' e sz v n xs := by
  refine ⟨h.1, ?_⟩
  rcases h.2 with hn | ⟨g, cap, cur, rfl, hbg, rest⟩
  · exact .inl hn
  · exact .inr ⟨g, cap, cur, rfl, Nat.le_trans hb hbg, rest⟩

theorem OwnI.ext {w w' : World} {B n c : Nat} {a : Option Addr} {zs : List Int} (h : OwnI w B a n c zs) (hb : Ext w w') : OwnI w' B a n c zs := ⟨own_ext h.1 hb, h.2⟩
theorem OwnI.mono {w : World} {B B' n c : Nat} {a : Option Addr} {zs : List Int} (h : OwnI w B a n c zs) (hb : B' ≤ B) : OwnI w B' a n c zs := ⟨own_mono h.1 hb, h.2⟩

theorem own_old {w : World} {B e g n c : Nat} {xs : List Value} (h : w.ownsRow B e 1 (.slice (some ⟨g, 0, none⟩) n c) n xs) (j : Nat) (hj : j < n) : ∃ u, w.cell? ⟨g, j, none⟩ = some u := by
  have hc := h.cellAt j (by omega)
  have hl := h.1
  exact ⟨_, hc.trans (List.getElem?_eq_getElem (by omega))⟩

/-- What a call that hands back a slice of ints in new memory leaves. -/
def NewI (w w' : World) (zs : List Int) (v : Value) : Prop := ∃ a n c, v = .slice a n c ∧ OwnI w' w.heap.size a n c zs ∧ Ext w w'

theorem Tryz.info_i64 : (Tryz.prog.info? 2).map (fun i => (i.zero, i.size, i.bytes)) = some (some (.int .i64 0), 1, 8) := by kernel_rfl

/-- append of what another slice holds, nil or not. -/
theorem wpList_append_row {P : Program} {w : World} {ops : Array Oper} {rest : List Oper} {o : Oper} {a : Act} {Q : Exit → Act → World → Prop} (hgd : o.guard = none) (s x : Operand) (t : TypeId)
    (ho : o.op = .call { callee := .builtin .append, args := #[s, x], argTypes := #[t, t] })
    (base : Nat) (e : TypeId) (i : TypeInfo) (z : Value) (size bytes : Nat) (ht : P.underlying t = some (.slice e)) (hi : P.info? e = some i) (hz : i.zero = some z)
    (hsize : i.size = size) (hby : i.bytes = bytes) (hzs : z.cells.size = size) (hsz : 0 < size)
    (v : Value) (n : Nat) (xs : List Value) (hs : a.eval s = v) (hown : w.ownsRow base e size v n xs)
    (ad : Option Addr) (m c : Nat) (news : List Value) (hx : a.eval x = .slice ad m c) (hl : news.length = m * size) (hrd : Rd w ad news) (h1 : ∀ u ∈ news, u.oneCell' = true)
    (h63 : n + m ≤ maxLen) (hbytes : (n + m) * bytes ≤ 140737488355328) (hbase : base ≤ w.heap.size)
    (h : ∀ v' w', w'.ownsRow base e size v' (n + m) (xs ++ news) → w.grownBy w' v.ownBlock → (v' = .slice none 0 0 ↔ v = .slice none 0 0 ∧ m = 0) → wpList P ops Q rest (a.put o.dst v') w') : wpList P ops Q (o :: rest) a w := by
  cases ad with
  | some ad => exact wpList_append_own w hgd s x t ho base e i z size bytes ht hi hz hsize hby hzs hsz v n xs hs hown ad m c news hx hl (hrd.cells ad rfl) h1 h63 hbytes hbase h
  | none =>
    have hnews : news = [] := by
      rcases hrd with h | ⟨b, o, h, _⟩
      · exact h
      · cases h
    subst hnews
    have hm : m = 0 := by
      have : m * size = 0 := by simpa using hl.symm
      rcases Nat.mul_eq_zero.1 this with h | h
      · exact h
      · omega
    subst hm
    refine wpList_plain hgd fun K hK => ?_
    have hrun : (Builtin.append_ #[t, t] o.type #[v, .slice none 0 c]).run P w = .ok v w := by
      rcases hown.2 with ⟨rfl, rfl⟩ | ⟨g, cap, cur, rfl, _, _, hnc, _⟩
      · simp [Builtin.append_, run_underlying ht, sizeOf, typeInfo, hi, Builtin.lenOf, Builtin.firstCells]
      · simp [Builtin.append_, run_underlying ht, sizeOf, typeInfo, hi, Builtin.lenOf, Builtin.firstCells, hnc, storeCells]
    unfold Oper.wp
    simp [execOp, ho, resolve, invoke, builtin, hs, hx, hrun, Result.andThen]
    exact hK _ _ (h v w (by simpa using hown) (World.grownBy.refl _ _) (by simp))

theorem ret_int {k : IntKind} {a b : Int} (h : a = b) : Ending.returned (.int k a) = .returned (.int k b) := by rw [h]
theorem ret_bool {a b : Bool} (h : a = b) : Ending.returned (.bool a) = .returned (.bool b) := by rw [h]
theorem ret_str {a b : List UInt8} (h : a = b) : Ending.returned (.string ⟨a.toArray⟩) = .returned (.string ⟨b.toArray⟩) := by rw [h]

/-- append of one element: the value and its one-cell block. -/
theorem cell_new1 (w : World) (u : Value) (e : TypeId) : ∀ j x, ([u] : List Value)[j]? = some x → (w.alloc (.cells #[u] e)).cell? ((⟨w.heap.size, 0, none⟩ : Addr).add j) = some x := by
  intro j x hx
  cases j with
  | zero => simp at hx; subst hx; simp [Addr.add, World.cell?_alloc_at]
  | succ j => simp at hx

theorem RdI.new1 (w : World) (x : Int) (e : TypeId) : RdI (w.alloc (.cells #[.int .i64 x] e)) (some ⟨w.heap.size, 0, none⟩) 1 [x] :=
  ⟨rfl, by decide, .inr ⟨_, _, rfl, by simp, fun j u hu => by
    have := cell_new1 w (.int .i64 x) e j u hu
    rw [Addr.add_lit] at this
    exact this⟩⟩

theorem RdI.isNone {w : World} {n : Nat} {zs : List Int} (h : RdI w none n zs) : n = 0 ∧ zs = [] := by
  have hz : zs = [] := by
    rcases h.2.2 with h | ⟨b, o, h, _⟩
    · simpa using h
    · cases h
  subst hz
  exact ⟨h.1.symm, rfl⟩

/-- append(s, x...) at []int64: s is the call's own, x any slice. -/
theorem wpList_appI {w : World} {ops : Array Oper} {rest : List Oper} {o : Oper} {a : Act} {Q : Exit → Act → World → Prop} (hgd : o.guard = none) (s x : Operand)
    (ho : o.op = .call { callee := .builtin .append, args := #[s, x], argTypes := #[25, 25] })
    (B : Nat) (v : Value) (n : Nat) (xs : List Int) (hs : a.eval s = v) (hown : w.ownsRow B 2 1 v n (xs.map (Value.int .i64)))
    (ad : Option Addr) (m c : Nat) (ys : List Int) (hx : a.eval x = .slice ad m c) (hr : RdI w ad m ys) (hsum : n + m ≤ 4294967296) (hB : B ≤ w.heap.size)
    (h : ∀ a' c' w', OwnI w' B a' (n + m) c' (xs ++ ys) → w.grownBy w' v.ownBlock → wpList Tryz.prog ops Q rest (a.put o.dst (.slice a' (n + m) c')) w') : wpList Tryz.prog ops Q (o :: rest) a w := by
  obtain ⟨i, hi, hz0, hz1, hz2⟩ := info_parts Tryz.info_i64
  refine wpList_append_row hgd s x 25 ho B 2 i (.int .i64 0) 1 8 Tryz.underlying25 hi hz0 hz1 hz2 rfl (by decide) v n _ hs hown ad m c (ys.map (Value.int .i64)) hx (by simpa using hr.len) hr.2.2 ?_ ?_ ?_ hB ?_
  · intro u hu
    obtain ⟨_, _, rfl⟩ := List.mem_map.1 hu
    rfl
  · unfold maxLen; omega
  · omega
  · intro v' w' h1 h2 _
    obtain ⟨a', c', rfl⟩ := own_slice h1
    exact h a' c' w' ⟨by simpa using h1, hsum⟩ h2

/-- []int64 made out of nothing, or of given elements. -/
theorem OwnI.lit0 (w : World) {B : Nat} (hB : B ≤ w.heap.size) : (w.alloc (.cells #[] 2)).ownsRow B 2 1 (.slice (some ⟨w.heap.size, 0, none⟩) 0 0) 0 (([] : List Int).map (Value.int .i64)) := by
  simpa using World.ownsRow_lit w #[] 0 hB (Nat.zero_le _) rfl
theorem OwnI.lit1 (w : World) (x : Int) {B : Nat} (hB : B ≤ w.heap.size) : (w.alloc (.cells #[.int .i64 x] 2)).ownsRow B 2 1 (.slice (some ⟨w.heap.size, 0, none⟩) 1 1) 1 (([x] : List Int).map (Value.int .i64)) := by
  simpa using World.ownsRow_lit w #[.int .i64 x] 1 hB (by decide) rfl
theorem OwnI.isNil (w : World) (B : Nat) : w.ownsRow B 2 1 (.slice none 0 0) 0 (([] : List Int).map (Value.int .i64)) := by
  simpa using World.ownsRow_nil w B 2 1

/-- Behind an append of one element to what the call owns. -/
theorem Ext.app {w wr w2 : World} {o : Obj} {B n c : Nat} {a : Option Addr} {xs : List Int} (hb : Ext w wr) (ho : OwnI wr B a n c xs) (hB : w.heap.size ≤ B) (hg : (wr.alloc o).grownBy w2 (Value.slice a n c).ownBlock) : Ext w w2 :=
  (hb.alloc o).grown hg fun k e => Nat.le_trans hB (ho.1.lt k e).1
theorem OwnI.alloc {w : World} {B n c : Nat} {a : Option Addr} {xs : List Int} (ho : OwnI w B a n c xs) (o : Obj) : (w.alloc o).ownsRow B 2 1 (.slice a n c) n (xs.map (Value.int .i64)) := own_ext ho.1 ((Ext.refl _).alloc _)
theorem Ext.le_alloc {w wr : World} (hb : Ext w wr) (o : Obj) : w.heap.size ≤ (wr.alloc o).heap.size := (hb.alloc o).size

end Go.Proofs.YtdicjpkcgeofjaaGreatDoor
end

section
namespace Go.Proofs.YtdicjpkcgeofjaaGreatDoor
open Go.RowKit

theorem ints_take_set (zs : List Int) (k n : Nat) (hn : zs.length = n) (h : k < n) : ((zs.take k).map (Value.int .i64) ++ List.replicate (n - k) (Value.int .i64 0)).set k (Value.int .i64 (nth zs k)) = (zs.take (k + 1)).map (Value.int .i64) ++ List.replicate (n - (k + 1)) (Value.int .i64 0) := by
  subst hn
  have e : zs.length - k = (zs.length - (k + 1)) + 1 := by omega
  rw [e, List.replicate_succ]
  have hl : ((zs.take k).map (Value.int .i64)).length = k := by simp; omega
  rw [List.set_append_right _ _ (by omega), hl]
  have t := List.take_succ_eq_append_getElem h
  rw [t, List.map_append, nth_eq h, List.append_assoc, Nat.sub_self]
  rfl

theorem marks_set (zs : List Int) (k : Int) (n i : Nat) (hn : zs.length = n) (h : i < n) :
    (((marks k i) ++ zs.drop i).map (Value.int .i64)).set i (Value.int .i64 (k + i)) = ((marks k (i + 1)) ++ zs.drop (i + 1)).map (Value.int .i64) := by
  subst hn
  rw [List.drop_eq_getElem_cons h, ← List.map_set]
  have hl : (marks k i).length = i := marks_len k i
  rw [List.set_append_right _ _ (by omega), hl, Nat.sub_self, List.set_cons_zero]
  simp only [marks, List.range_succ, List.map_append, List.append_assoc, List.map_cons, List.map_nil, List.cons_append, List.nil_append]

/-- Of what was there the block that a leads to alone has turned; there may be new blocks. -/
structure Wrote (w w' : World) (a : Option Addr) : Prop where
  os : w'.os = w.os
  tape : w'.tape = w.tape
  output : w'.output = w.output
  size : w.heap.size ≤ w'.heap.size
  block : ∀ k, k < w.heap.size → (∀ g, a = some g → k ≠ g.block) → w'.heap[k]? = w.heap[k]?
theorem Wrote.refl (w : World) (a : Option Addr) : Wrote w w a := ⟨rfl, rfl, rfl, Nat.le_refl _, fun _ _ _ => rfl⟩
theorem Wrote.setCell {w w' : World} {b o : Nat} (h : Wrote w w' (some ⟨b, o, none⟩)) (j : Nat) (u : Value) : Wrote w (w'.setCell ⟨b, j, none⟩ u) (some ⟨b, o, none⟩) :=
  ⟨h.os, h.tape, h.output, by simpa [World.setCell] using h.size, fun k hlt hk => by rw [Below.heap_setCell _ ⟨b, j, none⟩ _ _ (hk ⟨b, o, none⟩ rfl)]; exact h.block k hlt hk⟩
theorem Wrote.more {w w1 w2 : World} {a : Option Addr} (h : Wrote w w1 a) (x : Ext w1 w2) : Wrote w w2 a :=
  ⟨x.os.trans h.os, x.tape.trans h.tape, x.output.trans h.output, Nat.le_trans h.size x.size, fun k hlt hk => (x.block k (Nat.lt_of_lt_of_le hlt h.size)).trans (h.block k hlt hk)⟩
theorem Wrote.trans {w w1 w2 : World} {a : Option Addr} (h : Wrote w w1 a) (k : Wrote w1 w2 a) : Wrote w w2 a :=
  ⟨k.os.trans h.os, k.tape.trans h.tape, k.output.trans h.output, Nat.le_trans h.size k.size, fun j hlt hj => (k.block j (Nat.lt_of_lt_of_le hlt h.size) hj).trans (h.block j hlt hj)⟩
/-- What was there before that block was made reads on. -/
theorem Wrote.ext {w0 w w' : World} {B e sz n c m : Nat} {a : Option Addr} {xs : List Value} (h : Wrote w w' a) (h0 : Ext w0 w) (ho : w.ownsRow B e sz (.slice a n c) m xs) (hB : w0.heap.size ≤ B) : Ext w0 w' :=
  Below.trans h0 ⟨h.os, h.tape, h.output, h.size, fun k hk => h.block k (Nat.lt_of_lt_of_le hk h0.size) fun g hg => by
    subst hg
    have := (ho.lt _ rfl).1
    omega⟩
/-- What was made behind that block stays owned. -/
theorem Wrote.kept {w w' : World} {B B' e e' sz sz' n n' c c' m m' : Nat} {a a' : Option Addr} {xs ys : List Value} (h : Wrote w w' a) (ho : w.ownsRow B' e' sz' (.slice a' n' c') m' ys)
    (hw : ∃ w1 : World, w1.ownsRow B e sz (.slice a n c) m xs ∧ w1.heap.size ≤ B') : w'.ownsRow B' e' sz' (.slice a' n' c') m' ys := by
  obtain ⟨w1, hw1, hs⟩ := hw
  refine ⟨ho.1, ?_⟩
  rcases ho.2 with hn | ⟨g, cap, cur, hv, hbg, hgg, rest⟩
  · exact .inl hn
  · refine .inr ⟨g, cap, cur, hv, hbg, ?_, rest⟩
    rw [h.block g (Array.getElem?_eq_some_iff.1 hgg).1 ?_]
    · exact hgg
    · rintro g' rfl
      have := (hw1.lt _ rfl).2
      omega
end Go.Proofs.YtdicjpkcgeofjaaGreatDoor
end

section
namespace Go.Proofs.YtdicjpkcgeofjaaGreatDoor
open Go.RowKit

/-- How an element lies in cells: 'sz' of them. -/
structure Lay (α : Type) where
  cells : α → List Value
  sz : Nat
  len : ∀ x, (cells x).length = sz
  one : ∀ x, ∀ u ∈ cells x, u.oneCell' = true
  pos : 0 < sz

theorem flat_len {α : Type} (L : Lay α) (xs : List α) : (xs.flatMap L.cells).length = xs.length * L.sz := by
  induction xs with
  | nil => simp
  | cons x xs ih => rw [List.flatMap_cons, List.length_append, ih, L.len, List.length_cons, Nat.succ_mul, Nat.add_comm]
theorem flat_one {α : Type} (L : Lay α) (xs : List α) : ∀ u ∈ xs.flatMap L.cells, u.oneCell' = true := by
  intro u hu
  obtain ⟨x, _, hx⟩ := List.mem_flatMap.1 hu
  exact L.one x u hx
theorem flat_get {α : Type} (L : Lay α) (xs : List α) (k j : Nat) (x : α) (hk : xs[k]? = some x) (hj : j < L.sz) : (xs.flatMap L.cells)[k * L.sz + j]? = (L.cells x)[j]? := by
  induction xs generalizing k with
  | nil => simp at hk
  | cons y ys ih =>
    cases k with
    | zero =>
      simp at hk; subst hk
      rw [List.flatMap_cons, Nat.zero_mul, Nat.zero_add, List.getElem?_append_left (by rw [L.len]; exact hj)]
    | succ k =>
      rw [List.flatMap_cons, List.getElem?_append_right (by rw [L.len, Nat.succ_mul]; omega), L.len]
      rw [show (k + 1) * L.sz + j - L.sz = k * L.sz + j by rw [Nat.succ_mul]; omega]
      exact ih k (by simpa using hk)

/-- A slice of n elements reads as xs. -/
def RdG {α : Type} (L : Lay α) (w : World) (a : Option Addr) (n : Nat) (xs : List α) : Prop := xs.length = n ∧ n ≤ 4294967296 ∧ Rd w a (xs.flatMap L.cells)
theorem RdG.ext {α : Type} {L : Lay α} {w w' : World} {a : Option Addr} {n : Nat} {xs : List α} (h : RdG L w a n xs) (hb : Ext w w') : RdG L w' a n xs := ⟨h.1, h.2.1, h.2.2.ext hb⟩
theorem RdG.nil {α : Type} (L : Lay α) (w : World) (a : Option Addr) : RdG L w a 0 [] := ⟨rfl, by decide, .inl rfl⟩
theorem RdG.len {α : Type} {L : Lay α} {w : World} {a : Option Addr} {n : Nat} {xs : List α} (h : RdG L w a n xs) : xs.length = n := h.1
theorem RdG.le {α : Type} {L : Lay α} {w : World} {a : Option Addr} {n : Nat} {xs : List α} (h : RdG L w a n xs) : n ≤ 4294967296 := h.2.1
theorem RdG.isNone {α : Type} {L : Lay α} {w : World} {n : Nat} {xs : List α} (h : RdG L w none n xs) : n = 0 ∧ xs = [] := by
  have hz : xs = [] := by
    rcases h.2.2 with h' | ⟨b, o, h', _⟩
    · have := flat_len L xs
      rw [h'] at this
      simp only [List.length_nil] at this
      rcases Nat.mul_eq_zero.1 this.symm with h2 | h2
      · exact List.eq_nil_of_length_eq_zero h2
      · have := L.pos; omega
    · cases h'
  subst hz
  exact ⟨h.1.symm, rfl⟩
/-- The cells of its elements. -/
theorem RdG.at {α : Type} {L : Lay α} {w : World} {a : Option Addr} {n : Nat} {xs : List α} (h : RdG L w a n xs) (hn : 0 < n) :
    ∃ b o, a = some ⟨b, o, none⟩ ∧ b < w.heap.size ∧ ∀ k x, xs[k]? = some x → ∀ j u, (L.cells x)[j]? = some u → w.cell? ⟨b, o + (k * L.sz + j), none⟩ = some u := by
  obtain ⟨b, o, ha, hb, hc⟩ := h.2.2.pos (by rw [flat_len, h.1]; exact Nat.mul_pos hn L.pos)
  refine ⟨b, o, ha, hb, fun k x hk j u hu => hc _ u ?_⟩
  rw [flat_get L xs k j x hk (by rw [← L.len x]; exact (List.getElem?_eq_some_iff.1 hu).1)]
  exact hu

/-- What the call itself made. -/
def OwnG {α : Type} (L : Lay α) (e : TypeId) (w : World) (B : Nat) (a : Option Addr) (n c : Nat) (xs : List α) : Prop := w.ownsRow B e L.sz (.slice a n c) n (xs.flatMap L.cells) ∧ n ≤ 4294967296
theorem OwnG.rd {α : Type} {L : Lay α} {e : TypeId} {w : World} {B n c : Nat} {a : Option Addr} {xs : List α} (h : OwnG L e w B a n c xs) : RdG L w a n xs := by
  refine ⟨?_, h.2, own_rd h.1⟩
  have h1 := h.1.1
  rw [flat_len] at h1
  exact Nat.eq_of_mul_eq_mul_right L.pos h1
theorem OwnG.ext {α : Type} {L : Lay α} {e : TypeId} {w w' : World} {B n c : Nat} {a : Option Addr} {xs : List α} (h : OwnG L e w B a n c xs) (hb : Ext w w') : OwnG L e w' B a n c xs := ⟨own_ext h.1 hb, h.2⟩
theorem OwnG.mono {α : Type} {L : Lay α} {e : TypeId} {w : World} {B B' n c : Nat} {a : Option Addr} {xs : List α} (h : OwnG L e w B a n c xs) (hb : B' ≤ B) : OwnG L e w B' a n c xs := ⟨own_mono h.1 hb, h.2⟩
theorem OwnG.isNil {α : Type} (L : Lay α) (e : TypeId) (w : World) (B : Nat) : OwnG L e w B none 0 0 [] := ⟨by simpa using World.ownsRow_nil w B e L.sz, by decide⟩
theorem OwnG.alloc {α : Type} {L : Lay α} {e : TypeId} {w : World} {B n c : Nat} {a : Option Addr} {xs : List α} (h : OwnG L e w B a n c xs) (o : Obj) : OwnG L e (w.alloc o) B a n c xs := h.ext ((Ext.refl _).alloc _)
theorem OwnG.lit {α : Type} (L : Lay α) (e : TypeId) (w : World) {B : Nat} (hB : B ≤ w.heap.size) (xs : List α) (cs : Array Value) (hcs : cs.toList = xs.flatMap L.cells) (hn : xs.length ≤ 4294967296) :
    OwnG L e (w.alloc (.cells cs e)) B (some ⟨w.heap.size, 0, none⟩) xs.length xs.length xs := by
  refine ⟨?_, hn⟩
  have := World.ownsRow_lit (e := e) (size := L.sz) w cs xs.length hB (by unfold maxLen; omega) (by rw [← Array.length_toList, hcs, flat_len])
  rwa [hcs] at this

/-- What a call that hands back a slice in new memory leaves. -/
def NewG {α : Type} (L : Lay α) (e : TypeId) (w w' : World) (xs : List α) (v : Value) : Prop := ∃ a n c, v = .slice a n c ∧ OwnG L e w' w.heap.size a n c xs ∧ Ext w w'
theorem NewG.nil {α : Type} (L : Lay α) (e : TypeId) (w w' : World) (h : Ext w w') : NewG L e w w' [] (.slice none 0 0) := ⟨none, 0, 0, rfl, OwnG.isNil L e _ _, h⟩
theorem NewG.pre {α : Type} {L : Lay α} {e : TypeId} {w0 w w' : World} {xs : List α} {v : Value} (h0 : Ext w0 w) (h : NewG L e w w' xs v) : NewG L e w0 w' xs v := by
  obtain ⟨a, n, c, rfl, ho, hx⟩ := h
  exact ⟨a, n, c, rfl, ho.mono h0.size, h0.trans hx⟩

/-- append(s, x...): s is the call's own, x any slice of the same elements. 'z': the element's zero value; 'bytes': its width. -/
theorem wpList_appG {α : Type} (L : Lay α) {P : Program} {w : World} {ops : Array Oper} {rest : List Oper} {o : Oper} {a : Act} {Q : Exit → Act → World → Prop} (hgd : o.guard = none) (s x : Operand) (t e : TypeId)
    (ho : o.op = .call { callee := .builtin .append, args := #[s, x], argTypes := #[t, t] }) (ht : P.underlying t = some (.slice e)) (z : Value) (bytes : Nat)
    (hinfo : (P.info? e).map (fun i => (i.zero, i.size, i.bytes)) = some (some z, L.sz, bytes)) (hzs : z.cells.size = L.sz) (hby : bytes ≤ 128)
    (B : Nat) (sa : Option Addr) (n sc : Nat) (xs : List α) (hs : a.eval s = .slice sa n sc) (hown : OwnG L e w B sa n sc xs)
    (ad : Option Addr) (m c : Nat) (ys : List α) (hx : a.eval x = .slice ad m c) (hr : RdG L w ad m ys) (hsum : n + m ≤ 4294967296) (hB : B ≤ w.heap.size)
    (h : ∀ a' c' w', OwnG L e w' B a' (n + m) c' (xs ++ ys) → w.grownBy w' (Value.slice sa n sc).ownBlock → wpList P ops Q rest (a.put o.dst (.slice a' (n + m) c')) w') : wpList P ops Q (o :: rest) a w := by
  obtain ⟨i, hi, hz0, hz1, hz2⟩ := info_parts hinfo
  refine wpList_append_row hgd s x t ho B e i z L.sz bytes ht hi hz0 hz1 hz2 hzs L.pos _ n _ hs hown.1 ad m c (ys.flatMap L.cells) hx (by rw [flat_len, hr.len]) hr.2.2 (flat_one L ys) ?_ ?_ hB ?_
  · unfold maxLen; omega
  · calc (n + m) * bytes ≤ 4294967296 * 128 := Nat.mul_le_mul hsum hby
      _ ≤ 140737488355328 := by decide
  · intro v' w' h1 h2 _
    obtain ⟨a', c', rfl⟩ := own_slice h1
    exact h a' c' w' ⟨by rw [List.flatMap_append]; exact h1, hsum⟩ h2

/-- One element in a block of its own, as append's second argument. -/
theorem RdG.new1 {α : Type} (L : Lay α) (w : World) (x : α) (cs : Array Value) (hcs : cs.toList = L.cells x) (e : TypeId) : RdG L (w.alloc (.cells cs e)) (some ⟨w.heap.size, 0, none⟩) 1 [x] :=
  ⟨rfl, by decide, (OwnG.lit L e w (Nat.zero_le _) [x] cs (by simpa using hcs) (by simp)).rd.2.2⟩

/-- Behind an append of one element to what the call owns. -/
theorem Ext.appG {α : Type} {L : Lay α} {e : TypeId} {w wr w2 : World} {o : Obj} {B n c : Nat} {a : Option Addr} {xs : List α} (hb : Ext w wr) (ho : OwnG L e wr B a n c xs) (hB : w.heap.size ≤ B) (hg : (wr.alloc o).grownBy w2 (Value.slice a n c).ownBlock) : Ext w w2 :=
  (hb.alloc o).grown hg fun k e => Nat.le_trans hB (ho.1.lt k e).1

/-- The same, kept by a write to another block. -/
theorem OwnG.kept {α β : Type} {L : Lay α} {M : Lay β} {e e' : TypeId} {w w' : World} {B B' n n' c c' : Nat} {a a' : Option Addr} {xs : List α} {ys : List β} (h : Wrote w w' a) (ho : OwnG M e' w B' a' n' c' ys)
    (hw : ∃ w1 : World, OwnG L e w1 B a n c xs ∧ w1.heap.size ≤ B') : OwnG M e' w' B' a' n' c' ys := by
  obtain ⟨w1, h1, h2⟩ := hw
  exact ⟨h.kept ho.1 ⟨w1, h1.1, h2⟩, ho.2⟩

/-- A row of elements of which the first k are written, the rest are zero. -/
def partly {α : Type} (L : Lay α) (xs : List α) (k : Nat) (z : List Value) (n : Nat) : List Value := (xs.take k).flatMap L.cells ++ (List.replicate (n - k) z).flatten
theorem made_rep (z : Value) (sz n : Nat) (hz : z.cells.size = sz) (hp : 0 < sz) : (madeCells z.cells (n * sz)).toList = (List.replicate n z.cells.toList).flatten := by
  apply List.ext_getElem?
  intro j
  by_cases hj : j < n * sz
  · have hq : j / sz < n := Nat.div_lt_of_lt_mul (by rwa [Nat.mul_comm] at hj)
    have hm : j % sz < sz := Nat.mod_lt _ hp
    have key : ∀ (m i : Nat), i < m * sz → (List.replicate m z.cells.toList).flatten[i]? = z.cells.toList[i % sz]? := by
      intro m
      induction m with
      | zero => intro i hi; simp at hi
      | succ m ih =>
        intro i hi
        rw [List.replicate_succ, List.flatten_cons]
        by_cases h : i < sz
        · rw [List.getElem?_append_left (by simpa [hz] using h), Nat.mod_eq_of_lt h]
        · rw [List.getElem?_append_right (by simpa [hz] using Nat.le_of_not_lt h)]
          simp only [Array.length_toList, hz]
          rw [ih (i - sz) (by rw [Nat.succ_mul] at hi; omega), ← Nat.mod_eq_sub_mod (Nat.le_of_not_lt h)]
    rw [key n j hj]
    have hs : (j % sz) < z.cells.size := by rw [hz]; exact hm
    simp only [madeCells, Array.getElem?_toList, Array.getElem?_map, Array.getElem?_range, hj, if_true, Option.map_some, hz]
    rw [Array.getElem?_eq_getElem hs, getElem!_pos z.cells _ hs]
  · have h1 : (List.replicate n z.cells.toList).flatten.length = n * sz := by simp [hz]
    have h2 : (madeCells z.cells (n * sz)).toList.length = n * sz := by simp [madeCells]
    rw [List.getElem?_eq_none (by rw [h2]; omega), List.getElem?_eq_none (by rw [h1]; omega)]

theorem own_oldG {w : World} {B e sz g n c : Nat} {xs : List Value} (h : w.ownsRow B e sz (.slice (some ⟨g, 0, none⟩) n c) n xs) (j : Nat) (hj : j < n * sz) : ∃ u, w.cell? ⟨g, j, none⟩ = some u := by
  have hl := h.1
  have hc := h.cellAt j (by omega)
  exact ⟨_, hc.trans (List.getElem?_eq_getElem (by omega))⟩

end Go.Proofs.YtdicjpkcgeofjaaGreatDoor
end

section
namespace Go.Proofs.YtdicjpkcgeofjaaGreatDoor
open Go.RowKit

theorem flat_set {α : Type} (L : Lay α) {x x' : α} {u : Value} {j : Nat} (hj : j < L.sz) (hx : L.cells x' = (L.cells x).set j u) : ∀ (xs : List α) (k : Nat), xs[k]? = some x → (xs.flatMap L.cells).set (k * L.sz + j) u = (xs.set k x').flatMap L.cells
  | [], k, h => by simp at h
  | y :: ys, 0, h => by
    obtain rfl : y = x := by simpa using h
    rw [List.flatMap_cons, List.set_cons_zero, List.flatMap_cons, hx, Nat.zero_mul, Nat.zero_add, List.set_append_left _ _ (by rw [L.len]; exact hj)]
  | y :: ys, k + 1, h => by
    rw [List.flatMap_cons, List.set_cons_succ, List.flatMap_cons, List.set_append_right _ _ (by rw [L.len, Nat.succ_mul]; omega), L.len]
    rw [show (k + 1) * L.sz + j - L.sz = k * L.sz + j by rw [Nat.succ_mul]; omega, flat_set L hj hx ys k (by simpa using h)]
/-- One cell of one element is written. -/
theorem OwnG.setAt {α : Type} {L : Lay α} {e : TypeId} {w : World} {B g n c : Nat} {xs : List α} (h : OwnG L e w B (some ⟨g, 0, none⟩) n c xs) {k j : Nat} {x x' : α} {u : Value} (hk : xs[k]? = some x) (hj : j < L.sz) (hx : L.cells x' = (L.cells x).set j u) :
    OwnG L e (w.setCell ⟨g, k * L.sz + j, none⟩ u) B (some ⟨g, 0, none⟩) n c (xs.set k x') ∧ w.grownBy (w.setCell ⟨g, k * L.sz + j, none⟩ u) (some g) := by
  obtain ⟨h1, h2⟩ := h.1.stored (k * L.sz + j) u
  rw [flat_set L hj hx xs k hk] at h1
  exact ⟨⟨h1, h.2⟩, h2⟩
theorem grown_trans' {w w1 w2 : World} {r : Option Nat} (h : w.grownBy w1 r) (k : w1.grownBy w2 r) : w.grownBy w2 r :=
  ⟨k.os.trans h.os, k.tape.trans h.tape, k.output.trans h.output, Nat.le_trans h.size k.size, fun j hj hr => (k.block j (Nat.lt_of_lt_of_le hj h.size) hr).trans (h.block j hj hr)⟩
/-- A row of cells is written. -/
theorem own_setCells {B e sz g n c : Nat} : ∀ (vs : List Value) (off : Nat) (w : World) (xs : List Value), w.ownsRow B e sz (.slice (some ⟨g, 0, none⟩) n c) n xs → off + vs.length ≤ xs.length →
    (w.setCells g off vs).ownsRow B e sz (.slice (some ⟨g, 0, none⟩) n c) n (xs.take off ++ vs ++ xs.drop (off + vs.length)) ∧ w.grownBy (w.setCells g off vs) (some g)
  | [], off, w, xs, h, _ => by
    refine ⟨?_, World.grownBy.refl _ _⟩
    simpa [World.setCells] using h
  | v :: r, off, w, xs, h, hl => by
    obtain ⟨h1, h2⟩ := h.stored off v
    have hl' : off < xs.length := by simp at hl; omega
    obtain ⟨i1, i2⟩ := own_setCells r (off + 1) (w.setCell ⟨g, off, none⟩ v) (xs.set off v) h1 (by simp at hl ⊢; omega)
    refine ⟨?_, grown_trans' h2 i2⟩
    have e : (xs.set off v).take (off + 1) ++ r ++ (xs.set off v).drop (off + 1 + r.length) = xs.take off ++ v :: r ++ xs.drop (off + (r.length + 1)) := by
      rw [List.take_succ_eq_append_getElem (by simpa using hl'), List.getElem_set_self, List.take_set, List.set_eq_of_length_le (by simp; omega), List.drop_set, if_pos (by omega), show off + 1 + r.length = off + (r.length + 1) by omega]
      simp
    rw [e] at i1
    exact i1
/-- Cut to fewer elements. -/
theorem own_cut {w : World} {B e sz g n c m : Nat} {xs : List Value} (h : w.ownsRow B e sz (.slice (some ⟨g, 0, none⟩) n c) n xs) (hm : m ≤ n) : w.ownsRow B e sz (.slice (some ⟨g, 0, none⟩) m c) m (xs.take (m * sz)) := by
  have hmul : m * sz ≤ n * sz := Nat.mul_le_mul_right _ hm
  refine ⟨by rw [List.length_take, h.1]; omega, ?_⟩
  rcases h.2 with ⟨h', _⟩ | ⟨g', cap, cur, hv, hb, hg, h1, h2, h3, h4⟩
  · cases h'
  · cases hv
    refine .inr ⟨g, c, cur, rfl, hb, hg, Nat.le_trans hm h1, h2, h3, ?_⟩
    rw [← h4, List.take_take, Nat.min_eq_left hmul]
theorem OwnG.cut {α : Type} {L : Lay α} {e : TypeId} {w : World} {B g n c m : Nat} {xs : List α} (h : OwnG L e w B (some ⟨g, 0, none⟩) n c xs) (hm : m ≤ n) : OwnG L e w B (some ⟨g, 0, none⟩) m c (xs.take m) := by
  have hl := h.rd.len
  have h1 := own_cut h.1 hm
  have e2 : (xs.flatMap L.cells).take (m * L.sz) = (xs.take m).flatMap L.cells := by
    have e3 := List.take_append_drop m xs
    have e4 : xs.flatMap L.cells = (xs.take m).flatMap L.cells ++ (xs.drop m).flatMap L.cells := by rw [← List.flatMap_append, e3]
    rw [e4, List.take_append_of_le_length (by rw [flat_len, List.length_take, Nat.min_eq_left (by omega)]; exact Nat.le_refl _), List.take_of_length_le (by rw [flat_len, List.length_take, Nat.min_eq_left (by omega)]; exact Nat.le_refl _)]
  rw [e2] at h1
  exact ⟨h1, Nat.le_trans hm h.2⟩
/-- 'clear' of one element of many cells. -/
theorem run_clear_one {P : Program} (w : World) (t e ty : TypeId) (z : Value) (ht : P.underlying t = some (.slice e)) (hv : ∀ w, (zeroValue e).run P w = .ok z w) (h1 : ∀ u ∈ z.cells.toList, u.oneCell' = true) (b o c : Nat)
    (hc : ∀ j, j < z.cells.size → (w.cell? ⟨b, o + j, none⟩).isSome = true) (hf : ∀ j, j < z.cells.size → w.frozen? ⟨b, o + j, none⟩ = false) :
    (Builtin.clear_ #[t] ty #[.slice (some ⟨b, o, none⟩) 1 c]).run P w = .ok (.tuple #[]) (w.setCells b o z.cells.toList) := by
  have hzc : (Builtin.zeroCells z.cells 1).toList = z.cells.toList := by
    apply List.ext_getElem
    · simp [Builtin.zeroCells]
    · intro i h1 h2
      simp only [Array.length_toList] at h2
      simp [Builtin.zeroCells, Nat.mod_eq_of_lt h2, getElem!_pos, h2]
  have hst := run_storeCells_cells (P := P) b o z.cells.toList 0 w (by simpa using hc) (by simpa using hf) h1
  simp only [Nat.add_zero] at hst
  simp [Builtin.clear_, run_underlying ht, hv, hzc, hst]
end Go.Proofs.YtdicjpkcgeofjaaGreatDoor
end

section
namespace Go.Proofs.YtdicjpkcgeofjaaGreatDoor

/-- No index ahead of i has the same f. -/
def firstG {β : Type} [DecidableEq β] (f : Nat → β) (i : Nat) : Bool := (List.range i).all fun j => decide (f j ≠ f i)
def firstsG {β : Type} [DecidableEq β] (f : Nat → β) (k : Nat) : List Nat := (List.range k).filter (firstG f)
/-- The indices below n at which f is as at i. -/
def likeG {β : Type} [DecidableEq β] (f : Nat → β) (n i : Nat) : List Int := ((List.range n).filter fun m => decide (f m = f i)).map fun (m : Nat) => (m : Int)
def grps {β : Type} [DecidableEq β] (f : Nat → β) (k n : Nat) : List (List Int) := (firstsG f k).map (likeG f n)
section
variable {β : Type} [DecidableEq β] {f : Nat → β}
theorem firstG_iff {i : Nat} : firstG f i = true ↔ ∀ j, j < i → f j ≠ f i := by simp [firstG]
theorem firsts_mem {k i : Nat} : i ∈ firstsG f k ↔ i < k ∧ firstG f i = true := by simp [firstsG]
theorem firsts_in {k : Nat} (h : firstG f k = true) : firstsG f (k + 1) = firstsG f k ++ [k] := by simp [firstsG, List.range_succ, List.filter_append, h]
theorem firsts_out {k : Nat} (h : firstG f k = false) : firstsG f (k + 1) = firstsG f k := by simp [firstsG, List.range_succ, List.filter_append, h]
theorem firsts_len (k : Nat) : (firstsG f k).length ≤ k := by
  have := List.length_filter_le (firstG f) (List.range k)
  simpa [firstsG] using this
theorem firsts_sorted (k : Nat) : (firstsG f k).Pairwise (· < ·) := List.Pairwise.filter _ (List.pairwise_lt_range)
theorem like_in {n i : Nat} (h : f n = f i) : likeG f (n + 1) i = likeG f n i ++ [(n : Int)] := by simp [likeG, List.range_succ, List.filter_append, h]
theorem like_out {n i : Nat} (h : f n ≠ f i) : likeG f (n + 1) i = likeG f n i := by simp [likeG, List.range_succ, List.filter_append, h]
theorem like_len (n i : Nat) : (likeG f n i).length ≤ n := by
  have := List.length_filter_le (fun m => decide (f m = f i)) (List.range n)
  simpa [likeG] using this
theorem like_new {i : Nat} (h : firstG f i = true) : likeG f i i = [] := by
  have : (List.range i).filter (fun m => decide (f m = f i)) = [] := by
    rw [List.filter_eq_nil_iff]
    intro m hm
    simpa using firstG_iff.1 h m (List.mem_range.1 hm)
  rw [likeG, this]; rfl
/-- A group begins with its first. -/
theorem like_head {n i : Nat} (hi : i < n) (h : firstG f i = true) : ∃ l, likeG f n i = (i : Int) :: l := by
  induction n with
  | zero => omega
  | succ n ih =>
    by_cases e : i = n
    · subst e
      rw [like_in rfl, like_new h]
      exact ⟨[], rfl⟩
    · obtain ⟨l, hl⟩ := ih (by omega)
      by_cases hf : f n = f i
      · rw [like_in hf, hl]; exact ⟨l ++ [(n : Int)], rfl⟩
      · rw [like_out hf, hl]; exact ⟨l, rfl⟩
theorem first_distinct {k a b : Nat} (ha : a < (firstsG f k).length) (hb : b < (firstsG f k).length) (h : f (firstsG f k)[a] = f (firstsG f k)[b]) : a = b := by
  have key : ∀ a b (ha : a < (firstsG f k).length) (hb : b < (firstsG f k).length), f (firstsG f k)[a] = f (firstsG f k)[b] → ¬ a < b := by
    intro a b ha hb h hab
    have hlt := List.pairwise_iff_getElem.1 (firsts_sorted (f := f) k) a b ha hb hab
    exact firstG_iff.1 (firsts_mem.1 (List.getElem_mem hb)).2 _ hlt h
  have := key a b ha hb h
  have := key b a hb ha h.symm
  omega
/-- The k-th element begins a new group. -/
theorem grps_new {k : Nat} (h : ∀ q (hq : q < (firstsG f k).length), f (firstsG f k)[q] ≠ f k) : grps f (k + 1) (k + 1) = grps f k k ++ [[(k : Int)]] := by
  have h1 : firstG f k = true := by
    cases hf : firstG f k
    · exfalso
      -- the least index with the same f is a first
      have hex : ∃ j, j < k ∧ f j = f k := by
        apply Classical.byContradiction
        intro hn
        have : firstG f k = true := firstG_iff.2 fun j hj he => hn ⟨j, hj, he⟩
        rw [hf] at this; cases this
      have hmin : ∀ m j, j ≤ m → j < k → f j = f k → ∃ i, i < k ∧ f i = f k ∧ firstG f i = true := by
        intro m
        induction m with
        | zero => intro j hj hjk he; obtain rfl : j = 0 := (by omega); exact ⟨0, hjk, he, firstG_iff.2 fun j hj => by omega⟩
        | succ m ih =>
          intro j hj hjk he
          cases hfj : firstG f j
          · have : ∃ t, t < j ∧ f t = f j := by
              apply Classical.byContradiction
              intro hn
              have : firstG f j = true := firstG_iff.2 fun t ht he => hn ⟨t, ht, he⟩
              rw [hfj] at this; cases this
            obtain ⟨t, ht, hte⟩ := this
            exact ih t (by omega) (by omega) (hte.trans he)
          · exact ⟨j, hjk, he, hfj⟩
      obtain ⟨j, hj, he⟩ := hex
      obtain ⟨i, hi, hie, hif⟩ := hmin j j (Nat.le_refl _) hj he
      obtain ⟨q, hq, rfl⟩ := List.getElem_of_mem (firsts_mem.2 ⟨hi, hif⟩)
      exact h q hq hie
    · rfl
  rw [grps, firsts_in h1, List.map_append, List.map_singleton, like_in rfl, like_new h1, List.nil_append]
  congr 1
  rw [grps]
  refine List.map_congr_left fun i hi => ?_
  obtain ⟨q, hq, rfl⟩ := List.getElem_of_mem hi
  exact like_out fun e => h q hq e.symm
/-- The k-th element joins group q. -/
theorem grps_old {k q : Nat} (hq : q < (firstsG f k).length) (h : f (firstsG f k)[q] = f k) : grps f (k + 1) (k + 1) = (grps f k k).set q ((likeG f k (firstsG f k)[q]) ++ [(k : Int)]) := by
  have h1 : firstG f k = false := by
    rw [← Bool.not_eq_true, firstG_iff]
    intro hn
    exact hn _ (firsts_mem.1 (List.getElem_mem hq)).1 h
  rw [grps, firsts_out h1, grps]
  apply List.ext_getElem
  · simp
  · intro i hi1 hi2
    simp only [List.getElem_map, List.getElem_set]
    by_cases e : q = i
    · subst e
      rw [if_pos rfl, like_in h.symm]
    · rw [if_neg e]
      refine like_out fun e2 => e ?_
      have hi : i < (firstsG f k).length := by simpa using hi1
      exact first_distinct hq hi (h.trans e2)
theorem grps_get {k n q : Nat} (hq : q < (firstsG f k).length) : (grps f k n)[q]? = some (likeG f n (firstsG f k)[q]) := by simp [grps, hq]
theorem grps_len (k n : Nat) : (grps f k n).length = (firstsG f k).length := by simp [grps]
/-- The reference's round. -/
theorem grps_in {k n : Nat} (h : firstG f k = true) : grps f (k + 1) n = grps f k n ++ [likeG f n k] := by rw [grps, firsts_in h, List.map_append]; rfl
theorem grps_out {k n : Nat} (h : firstG f k = false) : grps f (k + 1) n = grps f k n := by rw [grps, firsts_out h, grps]
/-- Every index is in exactly one group: the lengths add up. -/
theorem grps_sum (n : Nat) : ((grps f n n).map List.length).sum = n := by
  induction n with
  | zero => rfl
  | succ k ih =>
    by_cases h : ∀ q (hq : q < (firstsG f k).length), f (firstsG f k)[q] ≠ f k
    · rw [grps_new h]; simp [ih]
    · have ⟨q, hq⟩ := Classical.not_forall.1 h
      have ⟨hq, he⟩ := Classical.not_forall.1 hq
      have he := Classical.byContradiction (fun hn => he hn)
      rw [grps_old hq he]
      have hlen : q < (grps f k k).length := by rw [grps_len]; exact hq
      have hget : (grps f k k)[q] = likeG f k (firstsG f k)[q] := by simp [grps]
      have key : ∀ (L : List (List Int)) (q : Nat) (hq : q < L.length) (x : Int), ((L.set q (L[q] ++ [x])).map List.length).sum = (L.map List.length).sum + 1 := by
        intro L
        induction L with
        | nil => intro q hq; simp at hq
        | cons a L ih =>
          intro q hq x
          cases q with
          | zero => simp; omega
          | succ q =>
            have := ih q (by simpa using hq) x
            simp only [List.set_cons_succ, List.map_cons, List.sum_cons, List.getElem_cons_succ]
            omega
      have := key (grps f k k) q hlen k
      rw [hget, ih] at this
      exact this
end

end Go.Proofs.YtdicjpkcgeofjaaGreatDoor
end

section
namespace Go.Proofs.YtdicjpkcgeofjaaGreatDoor
open Go.RowKit

/-- A group: its header and what it holds. -/
structure Gr where
  at_ : Option Addr
  cp : Nat
  zs : List Int
def valGr (q : Gr) : Value := .slice q.at_ q.zs.length q.cp
def layGr : Lay Gr where
  cells q := [valGr q]
  sz := 1
  len _ := rfl
  one _ u hu := by simp at hu; subst hu; rfl
  pos := by decide
def gzs (gs : List Gr) : List (List Int) := gs.map Gr.zs
theorem gzs_len (gs : List Gr) : (gzs gs).length = gs.length := by simp [gzs]

theorem own_grown {w w' : World} {B e sz n c m : Nat} {a : Option Addr} {xs : List Value} {r : Option Nat} (h : w.ownsRow B e sz (.slice a n c) m xs) (hd : w.grownBy w' r) (hne : ∀ k, (Value.slice a n c).ownBlock = some k → some k ≠ r) : w'.ownsRow B e sz (.slice a n c) m xs := by
  refine ⟨h.1, ?_⟩
  rcases h.2 with hn | ⟨g', cap, cur, hv, hbg, hgg, rest⟩
  · exact .inl hn
  · refine .inr ⟨g', cap, cur, hv, hbg, ?_, rest⟩
    rw [hd.block g' (Array.getElem?_eq_some_iff.1 hgg).1 (hne g' (by cases hv; rfl))]
    exact hgg
/-- Rows of elements of two kinds are not the same. -/
theorem own_apart {w : World} {B B' e e' sz sz' n n' c c' m m' : Nat} {a a' : Option Addr} {xs ys : List Value} (h : w.ownsRow B e sz (.slice a n c) m xs) (h' : w.ownsRow B' e' sz' (.slice a' n' c') m' ys) (hne : e ≠ e') {k : Nat} (hk : (Value.slice a n c).ownBlock = some k) : (Value.slice a' n' c').ownBlock ≠ some k := by
  intro hk'
  rcases h.2 with ⟨hn, _⟩ | ⟨g, cap, cur, hv, hb, hg, _⟩
  · cases hn; cases hk
  · rcases h'.2 with ⟨hn, _⟩ | ⟨g', cap', cur', hv', hb', hg', _⟩
    · cases hn; cases hk'
    · cases hv; cases hv'
      have e1 : g = k := by simpa [Value.ownBlock] using hk
      have e2 : g' = k := by simpa [Value.ownBlock] using hk'
      subst e1; subst e2
      rw [hg] at hg'
      simp only [Option.some.injEq, Obj.cells.injEq] at hg'
      exact hne hg'.2.1
/-- Groups that the call owns: the headers in a row, each group in a row of its own. -/
structure OwnGr (w : World) (B : Nat) (a : Option Addr) (n c : Nat) (gs : List Gr) : Prop where
  row : OwnG layGr 25 w B a n c gs
  each : ∀ q ∈ gs, OwnI w B q.at_ q.zs.length q.cp q.zs
  far : gs.Pairwise fun p q => ∀ k, (valGr p).ownBlock = some k → (valGr q).ownBlock ≠ some k
theorem OwnGr.ext {w w' : World} {B n c : Nat} {a : Option Addr} {gs : List Gr} (h : OwnGr w B a n c gs) (x : Ext w w') : OwnGr w' B a n c gs := ⟨h.row.ext x, fun q hq => (h.each q hq).ext x, h.far⟩
theorem OwnGr.mono {w : World} {B B' n c : Nat} {a : Option Addr} {gs : List Gr} (h : OwnGr w B a n c gs) (hb : B' ≤ B) : OwnGr w B' a n c gs := ⟨h.row.mono hb, fun q hq => (h.each q hq).mono hb, h.far⟩
theorem OwnGr.isNil (w : World) (B : Nat) : OwnGr w B none 0 0 [] := ⟨OwnG.isNil _ _ _ _, by simp, List.Pairwise.nil⟩
theorem kind_ne : 25 ≠ 2 := by decide

/-- What reads as a list of lists. -/
def RdGr (w : World) (a : Option Addr) (n : Nat) (zss : List (List Int)) : Prop := ∃ gs : List Gr, RdG layGr w a n gs ∧ (∀ q ∈ gs, RdI w q.at_ q.zs.length q.zs) ∧ gzs gs = zss
theorem RdGr.ext {w w' : World} {a : Option Addr} {n : Nat} {zss : List (List Int)} (h : RdGr w a n zss) (x : Ext w w') : RdGr w' a n zss := by
  obtain ⟨gs, h1, h2, h3⟩ := h
  exact ⟨gs, h1.ext x, fun q hq => (h2 q hq).ext x, h3⟩
theorem OwnGr.rd {w : World} {B n c : Nat} {a : Option Addr} {gs : List Gr} (h : OwnGr w B a n c gs) : RdGr w a n (gzs gs) := ⟨gs, h.row.rd, fun q hq => (h.each q hq).rd, rfl⟩
theorem RdGr.len {w : World} {a : Option Addr} {n : Nat} {zss : List (List Int)} (h : RdGr w a n zss) : zss.length = n := by
  obtain ⟨gs, h1, _, rfl⟩ := h
  rw [gzs_len, h1.len]
theorem RdGr.le {w : World} {a : Option Addr} {n : Nat} {zss : List (List Int)} (h : RdGr w a n zss) : n ≤ 4294967296 := by
  obtain ⟨gs, h1, _, _⟩ := h
  exact h1.le
/-- The header of group k, and what it holds. -/
theorem RdGr.at {w : World} {a : Option Addr} {n : Nat} {zss : List (List Int)} (h : RdGr w a n zss) (hn : 0 < n) :
    ∃ b o, a = some ⟨b, o, none⟩ ∧ b < w.heap.size ∧ ∀ k zs, zss[k]? = some zs → ∃ a' c', w.cell? ⟨b, o + k, none⟩ = some (.slice a' zs.length c') ∧ RdI w a' zs.length zs := by
  obtain ⟨gs, h1, h2, rfl⟩ := h
  obtain ⟨b, o, rfl, hb, hc⟩ := h1.at hn
  refine ⟨b, o, rfl, hb, fun k zs hk => ?_⟩
  rw [gzs, List.getElem?_map, Option.map_eq_some_iff] at hk
  obtain ⟨q, hq, rfl⟩ := hk
  have := hc k q hq 0 (valGr q) rfl
  exact ⟨q.at_, q.cp, by simpa [layGr, valGr] using this, h2 q (List.mem_of_getElem? hq)⟩

/-- One group more. -/
theorem OwnGr.snoc {w w' : World} {B n c c' : Nat} {a a' : Option Addr} {gs : List Gr} {q : Gr} {k : Nat} (h : OwnGr w B a n c gs) (hq : OwnI w B q.at_ q.zs.length q.cp q.zs) (hk : (valGr q).ownBlock = some k)
    (hfar : ∀ p ∈ gs, (valGr p).ownBlock ≠ some k) (hrow : OwnG layGr 25 w' B a' (n + 1) c' (gs ++ [q])) (hg : w.grownBy w' (Value.slice a n c).ownBlock) : OwnGr w' B a' (n + 1) c' (gs ++ [q]) := by
  refine ⟨hrow, fun p hp => ?_, ?_⟩
  · rcases List.mem_append.1 hp with m | e
    · refine ⟨own_grown (h.each p m).1 hg fun j hj e => ?_, (h.each p m).2⟩
      exact own_apart (h.each p m).1 h.row.1 (Ne.symm kind_ne) hj e.symm
    · obtain rfl := List.mem_singleton.1 e
      refine ⟨own_grown hq.1 hg fun j hj e => ?_, hq.2⟩
      exact own_apart hq.1 h.row.1 (Ne.symm kind_ne) hj e.symm
  · rw [List.pairwise_append]
    refine ⟨h.far, List.pairwise_singleton _ _, fun p hp r hr => ?_⟩
    rw [List.mem_singleton.1 hr]
    intro j hj e
    rw [hk] at e; cases e
    exact hfar p hp hj

/-- Groups that begin with different elements. -/
def Heads (gs : List Gr) : Prop := (∀ q ∈ gs, q.zs ≠ []) ∧ gs.Pairwise fun p q => p.zs[0]? ≠ q.zs[0]?
theorem own_head {w : World} {B n c k : Nat} {a : Option Addr} {zs : List Int} (h : OwnI w B a n c zs) (hk : (Value.slice a n c).ownBlock = some k) (hz : zs ≠ []) : ∃ x, zs[0]? = some x ∧ w.cell? ⟨k, 0, none⟩ = some (.int .i64 x) := by
  obtain ⟨x, r, rfl⟩ := List.exists_cons_of_ne_nil hz
  have hl := h.rd.len
  obtain ⟨b, o, ha, hb, hc⟩ := h.rd.at (by rw [← hl]; simp)
  rcases own_addr h.1 with e | ⟨g, e⟩
  · rw [e] at ha; cases ha
  · rw [e] at ha hk; cases ha
    have hgk : b = k := by simpa [Value.ownBlock] using hk
    rw [← hgk]
    exact ⟨x, rfl, by simpa [nth] using hc 0 (by rw [← hl]; simp)⟩
theorem far_of_heads {w : World} {B : Nat} {gs : List Gr} (h : ∀ q ∈ gs, OwnI w B q.at_ q.zs.length q.cp q.zs) (hh : Heads gs) : gs.Pairwise fun p q => ∀ k, (valGr p).ownBlock = some k → (valGr q).ownBlock ≠ some k := by
  refine List.Pairwise.imp_of_mem ?_ hh.2
  intro p q hp hq hne k h1 h2
  obtain ⟨x, hx, c1⟩ := own_head (h p hp) h1 (hh.1 p hp)
  obtain ⟨y, hy, c2⟩ := own_head (h q hq) h2 (hh.1 q hq)
  rw [c1] at c2
  simp only [Option.some.injEq, Value.int.injEq, true_and] at c2
  exact hne (by rw [hx, hy, c2])
theorem pair_set {α : Type} {R : α → α → Prop} : ∀ {xs : List α} {k : Nat} {x x' : α}, xs[k]? = some x → xs.Pairwise R → (∀ y, R x y → R x' y) → (∀ y, R y x → R y x') → (xs.set k x').Pairwise R
  | [], k, x, x', h, _, _, _ => by simp at h
  | y :: ys, 0, x, x', h, hp, h1, h2 => by
    obtain rfl : y = x := by simpa using h
    rw [List.set_cons_zero]
    obtain ⟨p1, p2⟩ := List.pairwise_cons.1 hp
    exact List.pairwise_cons.2 ⟨fun z hz => h1 z (p1 z hz), p2⟩
  | y :: ys, k + 1, x, x', h, hp, h1, h2 => by
    rw [List.set_cons_succ]
    obtain ⟨p1, p2⟩ := List.pairwise_cons.1 hp
    have h' : ys[k]? = some x := by simpa using h
    refine List.pairwise_cons.2 ⟨fun z hz => ?_, pair_set h' p2 h1 h2⟩
    rcases List.mem_or_eq_of_mem_set hz with m | e
    · exact p1 z m
    · rw [e]; exact h2 y (p1 x (List.mem_of_getElem? h'))
theorem Heads.set {gs : List Gr} {k : Nat} {q : Gr} (h : Heads gs) (hk : gs[k]? = some q) (a : Option Addr) (c : Nat) (x : Int) : Heads (gs.set k ⟨a, c, q.zs ++ [x]⟩) := by
  have hq := h.1 q (List.mem_of_getElem? hk)
  have h0 : (q.zs ++ [x])[0]? = q.zs[0]? := by
    obtain ⟨y, r, e⟩ := List.exists_cons_of_ne_nil hq
    rw [e]; rfl
  refine ⟨fun p hp => ?_, pair_set hk h.2 (fun y hy => by simpa only [h0] using hy) (fun y hy => by simpa only [h0] using hy)⟩
  rcases List.mem_or_eq_of_mem_set hp with m | e
  · exact h.1 p m
  · rw [e]; simp
/-- A group is appended to, and its header stored. -/
theorem OwnGr.upd {w w1 : World} {B n c g c1 k : Nat} {a1 : Option Addr} {gs : List Gr} {q : Gr} {x : Int} (h : OwnGr w B (some ⟨g, 0, none⟩) n c gs) (hh : Heads gs) (hk : gs[k]? = some q)
    (ho : OwnI w1 B a1 (q.zs.length + 1) c1 (q.zs ++ [x])) (hg : w.grownBy w1 (valGr q).ownBlock) :
    OwnGr (w1.setCell ⟨g, k, none⟩ (.slice a1 (q.zs.length + 1) c1)) B (some ⟨g, 0, none⟩) n c (gs.set k ⟨a1, c1, q.zs ++ [x]⟩) := by
  have hq := List.mem_of_getElem? hk
  have hrow : OwnG layGr 25 w1 B (some ⟨g, 0, none⟩) n c gs := ⟨own_grown h.row.1 hg (fun j hj e => own_apart h.row.1 (h.each q hq).1 kind_ne hj e.symm), h.row.2⟩
  have hset := hrow.setAt (k := k) (j := 0) (x' := ⟨a1, c1, q.zs ++ [x]⟩) (u := .slice a1 (q.zs.length + 1) c1) hk (by decide) (by simp [layGr, valGr])
  simp only [layGr, Nat.mul_one, Nat.add_zero] at hset
  have hsome : (Value.slice (some ⟨g, 0, none⟩) n c).ownBlock = some g := rfl
  have heach : ∀ p ∈ gs.set k ⟨a1, c1, q.zs ++ [x]⟩, OwnI w1 B p.at_ p.zs.length p.cp p.zs := by
    intro p hp
    obtain ⟨j, hj, e⟩ := List.getElem_of_mem hp
    rw [List.length_set] at hj
    rw [List.getElem_set] at e
    by_cases hjk : k = j
    · rw [if_pos hjk] at e
      rw [← e]
      simpa using ho
    · rw [if_neg hjk] at e
      have hpm : p ∈ gs := by rw [← e]; exact List.getElem_mem hj
      refine ⟨own_grown (h.each p hpm).1 hg fun i hi e2 => ?_, (h.each p hpm).2⟩
      have hkl : k < gs.length := (List.getElem?_eq_some_iff.1 hk).1
      have hkq : gs[k] = q := (List.getElem?_eq_some_iff.1 hk).2
      have hfar := List.pairwise_iff_getElem.1 h.far
      rcases Nat.lt_or_gt_of_ne hjk with hlt | hlt
      · have := hfar k j hkl hj hlt i (by rw [hkq]; exact e2.symm)
        rw [e] at this
        exact this hi
      · have := hfar j k hj hkl hlt i (by rw [e]; exact hi)
        rw [hkq] at this
        exact this e2.symm
  refine ⟨hset.1, fun p hp => ⟨own_grown (heach p hp).1 hset.2 fun i hi e => ?_, (heach p hp).2⟩, far_of_heads heach (hh.set hk a1 c1 x)⟩
  exact own_apart (heach p hp).1 hrow.1 (Ne.symm kind_ne) hi (by rw [hsome]; exact e.symm)

/-- The heads of the groups of indices. -/
theorem heads_grps {β : Type} [DecidableEq β] {f : Nat → β} {k : Nat} {gs : List Gr} (h : gzs gs = grps f k k) : Heads gs := by
  have hz : ∀ j (hj : j < gs.length), ∃ (hj2 : j < (firstsG f k).length) (l : List Int), gs[j].zs = (((firstsG f k)[j] : Nat) : Int) :: l := by
    intro j hj
    have hl : gs.length = (firstsG f k).length := by rw [← gzs_len, h, grps_len]
    have hj2 : j < (firstsG f k).length := by omega
    have e : gs[j].zs = likeG f k (firstsG f k)[j] := by
      have := congrArg (fun l => l[j]?) h
      simp only [grps_get hj2] at this
      rw [gzs, List.getElem?_map, List.getElem?_eq_getElem hj] at this
      simpa using this
    obtain ⟨m1, m2⟩ := firsts_mem.1 (List.getElem_mem hj2)
    obtain ⟨l, hl⟩ := like_head m1 m2
    exact ⟨hj2, l, by rw [e, hl]⟩
  refine ⟨fun q hq => ?_, ?_⟩
  · obtain ⟨j, hj, rfl⟩ := List.getElem_of_mem hq
    obtain ⟨_, l, e⟩ := hz j hj
    rw [e]; simp
  · rw [List.pairwise_iff_getElem]
    intro i j hi hj hij
    obtain ⟨i2, l, e1⟩ := hz i hi
    obtain ⟨j2, l2, e2⟩ := hz j hj
    have := List.pairwise_iff_getElem.1 (firsts_sorted (f := f) k) i j i2 j2 hij
    rw [e1, e2]
    simp only [List.getElem?_cons_zero, ne_eq, Option.some.injEq]
    omega
end Go.Proofs.YtdicjpkcgeofjaaGreatDoor
end

section
namespace Go.Proofs.YtdicjpkcgeofjaaGreatDoor
open Go.RowKit

theorem within_any (x lo hi : Int) (w : World) :
    Calls Tryz.prog 85 #[.int .i64 x, .int .i64 lo, .int .i64 hi] w fun e w' => e = .returned (.bool (inB x lo hi)) ∧ w = w' := by
  by_cases h1 : lo ≤ x <;> by_cases h2 : x ≤ hi
  all_goals
    go_enter Tryz.func85, Tryz.ntmps85
    go_wp2
    go_ret
    exact ⟨by simp [inB, *], rfl⟩

theorem l01In_any (x lo hi : Int) (w : World) :
    Calls Tryz.prog 50 #[.int .i64 x, .int .i64 lo, .int .i64 hi] w fun e w' => e = .returned (.bool (inB x lo hi)) ∧ w = w' := by
  by_cases h1 : lo ≤ x <;> by_cases h2 : x ≤ hi
  all_goals
    go_enter Tryz.func50, Tryz.ntmps50
    go_wp2
    go_ret
    exact ⟨by simp [inB, *], rfl⟩

set_option maxHeartbeats 400000 in
theorem areWithin_any (a : Option Addr) (n c : Nat) (lo hi : Int) (zs : List Int) (w : World) (hr : RdI w a n zs) :
    Calls Tryz.prog 58 #[.slice a n c, .int .i64 lo, .int .i64 hi] w fun e w' => e = .returned (.bool (allIn zs lo hi)) ∧ w = w' := by
  have hm := hr.le
  go_enter Tryz.func58, Tryz.ntmps58
  go_wp2
  go_loop [11] (fun i => ∃ k : Nat, k ≤ n ∧ i = .int .i64 k ∧ ∀ j, j < k → inB (nth zs j) lo hi = true) (fun i => n - (intOf i).toNat)
  case atStart => exact ⟨0, Nat.zero_le _, rfl, by simp⟩
  case round =>
    obtain ⟨k, hk, rfl, hall⟩ := hrel
    have HA := Lib.hid hall
    clear hall
    by_cases hlt : k < n
    · obtain ⟨b, o, rfl, hbl, hc⟩ := hr.at (by omega)
      have hck := hc k hlt
      clear hc
      cases h : inB (nth zs k) lo hi
      all_goals
        have HH := Lib.hid h
        clear h
        go_wp2_with (go_at_call 85; refine (within_any _ _ _ _).mono ?_; rintro e w' ⟨rfl, rfl⟩; rw [HH.out])
      · go_ret
        exact ⟨ret_bool (allIn_false (by rw [hr.len]; exact hlt) HH.out).symm, rfl⟩
      · go_round
        case rel =>
          refine ⟨k + 1, by omega, by go_num, fun j hj => ?_⟩
          by_cases e : j = k
          · rw [e, HH.out]
          · exact HA.out j (by omega)
        case measure => simp [intOf]; omega
    · obtain rfl : k = n := by omega
      go_wp2
      go_ret
      exact ⟨ret_bool (allIn_true (by rw [hr.len]; exact HA.out)).symm, rfl⟩

set_option maxHeartbeats 400000 in
theorem l01Has_any (a : Option Addr) (n c : Nat) (x : Int) (zs : List Int) (w : World) (hr : RdI w a n zs) :
    Calls Tryz.prog 63 #[.slice a n c, .int .i64 x] w fun e w' => e = .returned (.bool (hasI zs x)) ∧ w = w' := by
  have hm := hr.le
  go_enter Tryz.func63, Tryz.ntmps63
  go_wp2
  go_loop [5] (fun i => ∃ k : Nat, k ≤ n ∧ i = .int .i64 k ∧ ∀ j, j < k → nth zs j ≠ x) (fun i => n - (intOf i).toNat)
  case atStart => exact ⟨0, Nat.zero_le _, rfl, by simp⟩
  case round =>
    obtain ⟨k, hk, rfl, hall⟩ := hrel
    have HA := Lib.hid hall
    clear hall
    by_cases hlt : k < n
    · obtain ⟨b, o, rfl, hbl, hc⟩ := hr.at (by omega)
      have hck := hc k hlt
      clear hc
      by_cases h : nth zs k = x
      · have HH := Lib.hid h
        have hb : (nth zs k == x) = true := by simp [h]
        clear h
        go_wp2
        go_ret
        exact ⟨ret_bool (mem_nth (by rw [hr.len]; exact hlt) HH.out).symm, rfl⟩
      · have HH := Lib.hid h
        have hb : (nth zs k == x) = false := by simp [h]
        clear h
        go_wp2
        go_round
        case rel =>
          refine ⟨k + 1, by omega, by go_num, fun j hj => ?_⟩
          by_cases e : j = k
          · rw [e]; exact HH.out
          · exact HA.out j (by omega)
        case measure => simp [intOf]; omega
    · obtain rfl : k = n := by omega
      go_wp2
      go_ret
      exact ⟨ret_bool (not_mem_nth (by rw [hr.len]; exact HA.out)).symm, rfl⟩

set_option maxHeartbeats 400000 in
theorem slIndex_int64_any (a : Option Addr) (n c : Nat) (x : Int) (zs : List Int) (w : World) (hr : RdI w a n zs) :
    Calls Tryz.prog 105 #[.slice a n c, .int .i64 x] w fun e w' => e = .returned (.int .i64 (idxOf zs x)) ∧ w = w' := by
  have hm := hr.le
  go_enter Tryz.func105, Tryz.ntmps105
  go_wp2
  go_loop [8] (fun i => ∃ k : Nat, k ≤ n ∧ i = .int .i64 k ∧ ∀ j, j < k → nth zs j ≠ x) (fun i => n - (intOf i).toNat)
  case atStart => exact ⟨0, Nat.zero_le _, rfl, by simp⟩
  case round =>
    obtain ⟨k, hk, rfl, hall⟩ := hrel
    have HA := Lib.hid hall
    clear hall
    by_cases hlt : k < n
    · obtain ⟨b, o, rfl, hbl, hc⟩ := hr.at (by omega)
      have hck := hc k hlt
      clear hc
      by_cases h : nth zs k = x
      · have HH := Lib.hid h
        have hb : (x == nth zs k) = true := by simp [h]
        clear h
        go_wp2
        go_ret
        exact ⟨ret_int (idxOf_at (by rw [hr.len]; exact hlt) HH.out HA.out).symm, rfl⟩
      · have HH := Lib.hid h
        have hb : (x == nth zs k) = false := by rw [beq_eq_false_iff_ne]; exact fun e => h e.symm
        clear h
        go_wp2
        go_round
        case rel =>
          refine ⟨k + 1, by omega, by go_num, fun j hj => ?_⟩
          by_cases e : j = k
          · rw [e]; exact HH.out
          · exact HA.out j (by omega)
        case measure => simp [intOf]; omega
    · obtain rfl : k = n := by omega
      go_wp2
      go_ret
      exact ⟨ret_int (idxOf_none (by rw [hr.len]; exact HA.out)).symm, rfl⟩

theorem slContains_int64_any (a : Option Addr) (n c : Nat) (x : Int) (zs : List Int) (w : World) (hr : RdI w a n zs) :
    Calls Tryz.prog 75 #[.slice a n c, .int .i64 x] w fun e w' => e = .returned (.bool (hasI zs x)) ∧ w = w' := by
  go_enter Tryz.func75, Tryz.ntmps75
  go_wp2_with (go_at_call 105; refine (slIndex_int64_any _ _ _ _ _ _ hr).mono ?_; rintro e w' ⟨rfl, rfl⟩)
  go_ret
  exact ⟨ret_bool idxOf_ge, rfl⟩

theorem slClone_int64_any (a : Option Addr) (n c : Nat) (zs : List Int) (w : World) (hr : RdI w a n zs) :
    Calls Tryz.prog 73 #[.slice a n c] w fun e w' => ∃ v, e = .returned v ∧ NewI w w' zs v := by
  have hm := hr.le
  have hq := fun (w : World) (a : Option Addr) (n c : Nat) => Lib.run_eql_slice_nil (P := Tryz.prog) w 25 2 a n c 0 0 Tryz.underlying25
  cases a with
  | none =>
    go_enter Tryz.func73, Tryz.ntmps73
    go_wp2
    go_ret
    obtain ⟨_, rfl⟩ := hr.isNone
    exact ⟨_, rfl, none, 0, 0, rfl, ⟨OwnI.isNil _ _, by decide⟩, Ext.refl _⟩
  | some ad =>
    go_enter Tryz.func73, Tryz.ntmps73
    go_wp2_with (first | (at_builtin; refine wpList_appI rfl _ _ rfl w.heap.size _ 0 [] rfl (OwnI.lit0 w (Nat.le_refl _)) _ _ _ zs rfl (hr.ext ((Ext.refl _).alloc _)) (by omega) (by simp) ?_; intro a' c' w1 hown hgrow; simp only [Nat.zero_add] at hown ⊢))
    go_ret
    exact ⟨_, rfl, _, _, _, rfl, hown, ((Ext.refl _).alloc _).wrote hgrow (Nat.le_refl _)⟩

end Go.Proofs.YtdicjpkcgeofjaaGreatDoor
end

section
namespace Go.Proofs.YtdicjpkcgeofjaaGreatDoor
open Go.RowKit

/-- A string's cell. -/
def layS : Lay ByteArray where
  cells s := [.string s]
  sz := 1
  len _ := rfl
  one _ u hu := by simp at hu; subst hu; rfl
  pos := by decide
def nthS (ss : List ByteArray) (k : Nat) : ByteArray := ss.getD k ByteArray.empty
theorem nthS_eq {ss : List ByteArray} {k : Nat} (h : k < ss.length) : nthS ss k = ss[k] := by simp [nthS, h]
theorem nthS_mem {ss : List ByteArray} {k : Nat} (h : k < ss.length) : nthS ss k ∈ ss := by rw [nthS_eq h]; exact List.getElem_mem h

/-- A slice of strings of moderate sizes reads as ss. -/
def RdS (w : World) (a : Option Addr) (n : Nat) (ss : List ByteArray) : Prop := RdG layS w a n ss ∧ ∀ s ∈ ss, s.size ≤ 1073741824
theorem RdS.ext {w w' : World} {a : Option Addr} {n : Nat} {ss : List ByteArray} (h : RdS w a n ss) (x : Ext w w') : RdS w' a n ss := ⟨h.1.ext x, h.2⟩
theorem RdS.len {w : World} {a : Option Addr} {n : Nat} {ss : List ByteArray} (h : RdS w a n ss) : ss.length = n := h.1.len
theorem RdS.le {w : World} {a : Option Addr} {n : Nat} {ss : List ByteArray} (h : RdS w a n ss) : n ≤ 4294967296 := h.1.le
theorem RdS.at {w : World} {a : Option Addr} {n : Nat} {ss : List ByteArray} (h : RdS w a n ss) (hn : 0 < n) :
    ∃ b o, a = some ⟨b, o, none⟩ ∧ b < w.heap.size ∧ ∀ k, k < n → w.cell? ⟨b, o + k, none⟩ = some (.string (nthS ss k)) := by
  obtain ⟨b, o, ha, hb, hc⟩ := h.1.at hn
  refine ⟨b, o, ha, hb, fun k hk => ?_⟩
  have hl := h.len
  have := hc k (nthS ss k) (by rw [nthS_eq (by omega)]; exact List.getElem?_eq_getElem (by omega)) 0 (.string (nthS ss k)) rfl
  simpa [layS] using this
theorem RdS.size {w : World} {a : Option Addr} {n : Nat} {ss : List ByteArray} (h : RdS w a n ss) {k : Nat} (hk : k < n) : (nthS ss k).size ≤ 1073741824 := h.2 _ (nthS_mem (by rw [h.len]; exact hk))
def OwnS (w : World) (B : Nat) (a : Option Addr) (n c : Nat) (ss : List ByteArray) : Prop := OwnG layS 9 w B a n c ss ∧ ∀ s ∈ ss, s.size ≤ 1073741824
theorem OwnS.rd {w : World} {B n c : Nat} {a : Option Addr} {ss : List ByteArray} (h : OwnS w B a n c ss) : RdS w a n ss := ⟨h.1.rd, h.2⟩
theorem OwnS.cap {w : World} {B n c : Nat} {a : Option Addr} {ss : List ByteArray} (h : OwnS w B a n c ss) : n ≤ c := by
  rcases h.1.1.2 with ⟨h1, h2⟩ | ⟨g, cap, cur, hv, _, _, hc, _⟩
  · omega
  · cases hv; exact hc
theorem OwnS.ext {w w' : World} {B n c : Nat} {a : Option Addr} {ss : List ByteArray} (h : OwnS w B a n c ss) (x : Ext w w') : OwnS w' B a n c ss := ⟨h.1.ext x, h.2⟩
theorem OwnS.mono {w : World} {B B' n c : Nat} {a : Option Addr} {ss : List ByteArray} (h : OwnS w B a n c ss) (hb : B' ≤ B) : OwnS w B' a n c ss := ⟨h.1.mono hb, h.2⟩
def NewS (w w' : World) (ss : List ByteArray) (v : Value) : Prop := ∃ a n c, v = .slice a n c ∧ OwnS w' w.heap.size a n c ss ∧ Ext w w'
theorem NewS.nil (w w' : World) (h : Ext w w') : NewS w w' [] (.slice none 0 0) := ⟨none, 0, 0, rfl, ⟨OwnG.isNil _ _ _ _, by simp⟩, h⟩
theorem NewS.pre {w0 w w' : World} {ss : List ByteArray} {v : Value} (h0 : Ext w0 w) (h : NewS w w' ss v) : NewS w0 w' ss v := by
  obtain ⟨a, n, c, rfl, ho, hx⟩ := h
  exact ⟨a, n, c, rfl, ho.mono h0.size, h0.trans hx⟩
theorem Tryz.info_string : (Tryz.prog.info? 9).map (fun i => (i.zero, i.size, i.bytes)) = some (some (.string ⟨#[]⟩), 1, 16) := by kernel_rfl

theorem strs_take_set (ss : List ByteArray) (k n : Nat) (z : Value) (hn : ss.length = n) (h : k < n) : ((ss.take k).flatMap layS.cells ++ List.replicate (n - k) z).set k (.string (nthS ss k)) = (ss.take (k + 1)).flatMap layS.cells ++ List.replicate (n - (k + 1)) z := by
  subst hn
  have e : ss.length - k = (ss.length - (k + 1)) + 1 := by omega
  rw [e, List.replicate_succ]
  have hl : ((ss.take k).flatMap layS.cells).length = k := by rw [flat_len]; simp [layS]; omega
  rw [List.set_append_right _ _ (by omega), hl]
  have t := List.take_succ_eq_append_getElem h
  rw [t, List.flatMap_append, nthS_eq h, List.append_assoc, Nat.sub_self]
  rfl

end Go.Proofs.YtdicjpkcgeofjaaGreatDoor
end

section
namespace Go.Proofs.YtdicjpkcgeofjaaGreatDoor

/-- The pieces between the bytes c. -/
def splitL (c : UInt8) : List UInt8 → List (List UInt8)
  | [] => [[]]
  | b :: l => if b == c then [] :: splitL c l else match splitL c l with
    | [] => [[b]]
    | p :: ps => (b :: p) :: ps
theorem splitL_miss {c : UInt8} : ∀ {l : List UInt8}, (∀ x ∈ l, x ≠ c) → splitL c l = [l]
  | [], _ => rfl
  | b :: l, h => by
    have hb : (b == c) = false := by rw [beq_eq_false_iff_ne]; exact h b (by simp)
    rw [splitL, hb, splitL_miss (fun x hx => h x (by simp [hx]))]
    rfl
theorem splitL_hit {c : UInt8} : ∀ {l : List UInt8} {k : Nat}, l[k]? = some c → (∀ j x, j < k → l[j]? = some x → x ≠ c) → splitL c l = l.take k :: splitL c (l.drop (k + 1))
  | [], k, h, _ => by simp at h
  | b :: l, 0, h, _ => by
    obtain rfl : b = c := by simpa using h
    simp [splitL]
  | b :: l, k + 1, h, hp => by
    have hb : (b == c) = false := by rw [beq_eq_false_iff_ne]; exact hp 0 b (by omega) rfl
    have ih := splitL_hit (l := l) (k := k) (by simpa using h) (fun j x hj hx => hp (j + 1) x (by omega) (by simpa using hx))
    rw [splitL, hb, ih]
    simp
theorem index_one (c : UInt8) : ∀ l : List UInt8, Lib.index l [c] = match l.findIdx? (· == c) with | some k => (k : Int) | none => -1
  | [] => rfl
  | b :: l => by
    rw [Lib.index, index_one c l, List.findIdx?_cons]
    have e : [c].isPrefixOf (b :: l) = (b == c) := by
      rw [List.isPrefixOf_cons_cons, List.isPrefixOf_nil_left, Bool.and_true, Bool.beq_comm]
    rw [e]
    cases hb : b == c
    · cases h : l.findIdx? (· == c) with
      | none => simp
      | some k => simp
    · simp
theorem index_one_some {c : UInt8} {l : List UInt8} {k : Nat} (h : l.findIdx? (· == c) = some k) : l[k]? = some c ∧ ∀ j x, j < k → l[j]? = some x → x ≠ c := by
  obtain ⟨hk, he, hp⟩ := List.findIdx?_eq_some_iff_getElem.1 h
  refine ⟨?_, fun j x hj hx => ?_⟩
  · rw [List.getElem?_eq_getElem hk]; simpa using he
  · have := hp j hj
    rw [List.getElem?_eq_getElem (by omega)] at hx
    cases hx
    simpa using this
theorem splitK_one (c : UInt8) : ∀ (n : Nat) (l : List UInt8), l.length ≤ n → Lib.splitK [c] 0 (Lib.count l [c]) l = splitL c l ∧ (splitL c l).length = Lib.count l [c] + 1 := by
  intro n
  induction n with
  | zero =>
    intro l hl
    obtain rfl : l = [] := List.eq_nil_of_length_eq_zero (by omega)
    exact ⟨rfl, rfl⟩
  | succ n ih =>
    intro l hl
    have hi := index_one c l
    cases h : l.findIdx? (· == c) with
    | none =>
      rw [h] at hi
      have hm := Lib.count_miss hi
      rw [hm, splitL_miss (fun x hx => by have := List.findIdx?_eq_none_iff.1 h x hx; simpa using this)]
      exact ⟨rfl, rfl⟩
    | some k =>
      rw [h] at hi
      simp only at hi
      obtain ⟨h1, h2⟩ := index_one_some h
      have hk : k < l.length := (List.getElem?_eq_some_iff.1 h1).1
      have hc := Lib.count_hit (by simp) hi
      have := ih (l.drop (k + 1)) (by simp; omega)
      simp only [List.length_singleton] at hc
      rw [hc, splitL_hit h1 h2, List.length_cons, this.2]
      refine ⟨?_, by omega⟩
      rw [Nat.add_comm, Lib.splitK, if_neg (by rw [hi]; simp), hi]
      simp only [Int.toNat_natCast, Nat.add_zero, List.length_singleton]
      rw [this.1]

theorem splitL_len {c : UInt8} : ∀ {l : List UInt8}, ∀ p ∈ splitL c l, p.length ≤ l.length
  | [], p, h => by simp [splitL] at h; subst h; simp
  | b :: l, p, h => by
    rw [splitL] at h
    cases hb : b == c
    · rw [hb] at h
      simp only [Bool.false_eq_true, if_false] at h
      cases hs : splitL c l with
      | nil => rw [hs] at h; simp at h; subst h; simp
      | cons q qs =>
        rw [hs] at h
        rcases List.mem_cons.1 h with rfl | h
        · have := splitL_len (c := c) (l := l) q (by rw [hs]; simp)
          simp; omega
        · have := splitL_len (c := c) (l := l) p (by rw [hs]; simp [h])
          simp; omega
    · rw [hb] at h
      simp only [if_true] at h
      rcases List.mem_cons.1 h with rfl | h
      · simp
      · have := splitL_len (c := c) (l := l) p h
        simp; omega
theorem splitL_num {c : UInt8} : ∀ {l : List UInt8}, (splitL c l).length ≤ l.length + 1
  | [] => by simp [splitL]
  | b :: l => by
    have := splitL_num (c := c) (l := l)
    rw [splitL]
    split
    · simp; omega
    · cases hs : splitL c l with
      | nil => simp
      | cons q qs => rw [hs] at this; simp at this ⊢; omega
/-- The pieces of a text between the bytes c. -/
def splitC (c : UInt8) (s : ByteArray) : List ByteArray := (splitL c s.data.toList).map fun l => ⟨l.toArray⟩
theorem splitC_small {c : UInt8} {s : ByteArray} : ∀ p ∈ splitC c s, p.size ≤ s.size := by
  intro p hp
  obtain ⟨l, hl, rfl⟩ := List.mem_map.1 hp
  have := splitL_len l hl
  show l.toArray.size ≤ s.data.size
  simpa using this
theorem splitC_num {c : UInt8} {s : ByteArray} : (splitC c s).length ≤ s.size + 1 := by
  have := splitL_num (c := c) (l := s.data.toList)
  rw [splitC, List.length_map]
  show _ ≤ s.data.size + 1
  simpa using this
theorem splitB_one (c : UInt8) (s : ByteArray) : Lib.splitB ⟨#[c]⟩ 0 (Lib.countB s ⟨#[c]⟩) s = splitC c s ∧ (splitC c s).length = Lib.countB s ⟨#[c]⟩ + 1 := by
  have h1 := splitK_one c _ s.data.toList (Nat.le_refl _)
  have h2 := Lib.splitB_data ⟨#[c]⟩ 0 (Lib.countB s ⟨#[c]⟩) s
  have e : Lib.countB s ⟨#[c]⟩ = Lib.count s.data.toList [c] := rfl
  refine ⟨?_, by rw [splitC, List.length_map, h1.2, e]⟩
  have h3 := congrArg (List.map fun l : List UInt8 => (⟨l.toArray⟩ : ByteArray)) h2
  rw [List.map_map] at h3
  have hid : ((fun l : List UInt8 => (⟨l.toArray⟩ : ByteArray)) ∘ fun x : ByteArray => x.data.toList) = id := by funext x; rfl
  rw [hid, List.map_id] at h3
  rw [h3, e, splitC, ← h1.1]
end Go.Proofs.YtdicjpkcgeofjaaGreatDoor
end

section
namespace Go.Proofs.YtdicjpkcgeofjaaGreatDoor
open Go.RowKit

theorem takeNo {P : Program} {md : Region.Mode} {ops : Array Oper} {Q : Exit → Act → World → Prop} (i d : Nat) {oi : Oper} {fuel : Nat} {listed : Array Bool} {a : Act} {w : World} (hi : ops[i]? = some oi) (hd : oi.dst = some d)
    (hs : Region.noSelect ops = true) (hf : Region.free md ops listed i = true) (hr : (Region.ready md ops listed).contains i = true)
    (hQ : ∀ c a w v, Q (.panic c) (a.put oi.dst v) w → Q (.panic c) a w) (hw : Region.wanted oi (yielded ops a.tmps) = false)
    (h : wpAny P md ops Q fuel (listed.setIfInBounds i true) (a.put (some d) undef) w) : wpAny P md ops Q (fuel + 1) listed a w :=
  wpAny_take (v := undef) hi hs hf hr (fun c a w h => hQ c a w _ h) (Or.inr ⟨hw, rfl⟩) (by rw [hd]; exact h)
theorem takeYes {P : Program} {md : Region.Mode} {ops : Array Oper} {Q : Exit → Act → World → Prop} (i d : Nat) (v : Value) {oi : Oper} {fuel : Nat} {listed : Array Bool} {a : Act} {w : World} (hi : ops[i]? = some oi) (hd : oi.dst = some d)
    (hs : Region.noSelect ops = true) (hf : Region.free md ops listed i = true) (hr : (Region.ready md ops listed).contains i = true)
    (hQ : ∀ c a w v, Q (.panic c) (a.put oi.dst v) w → Q (.panic c) a w) (hw : Region.wanted oi (yielded ops a.tmps) = true)
    (hy : ∀ w, (execOp a.eval oi).run P w = .ok (.value v) w)
    (h : wpAny P md ops Q fuel (listed.setIfInBounds i true) (a.put (some d) v) w) : wpAny P md ops Q (fuel + 1) listed a w :=
  wpAny_take (v := v) hi hs hf hr (fun c a w h => hQ c a w _ h) (Or.inl ⟨hw, hy⟩) (by rw [hd]; exact h)

theorem takeNoH {P : Program} {md : Region.Mode} {ops : Array Oper} {Q : Exit → Act → World → Prop} {S : World → Prop} (i d : Nat) {oi : Oper} {fuel : Nat} {listed : Array Bool} {a : Act} {w : World} (hi : ops[i]? = some oi) (hd : oi.dst = some d)
    (hs : Region.noSelect ops = true) (hf : Region.free md ops listed i = true) (hr : (Region.ready md ops listed).contains i = true)
    (hQ : ∀ c a w v, Q (.panic c) (a.put oi.dst v) w → Q (.panic c) a w) (hw : Region.wanted oi (yielded ops a.tmps) = false) (hS : S w)
    (h : wpAnyH P md ops Q S fuel (listed.setIfInBounds i true) (a.put (some d) undef) w) : wpAnyH P md ops Q S (fuel + 1) listed a w :=
  wpAnyH_take (v := undef) hi hs hf hr (fun c a w h => hQ c a w _ h) (Or.inr ⟨hw, rfl⟩) hS (by rw [hd]; exact h)
theorem takeYesH {P : Program} {md : Region.Mode} {ops : Array Oper} {Q : Exit → Act → World → Prop} {S : World → Prop} (i d : Nat) (v : Value) {oi : Oper} {fuel : Nat} {listed : Array Bool} {a : Act} {w : World} (hi : ops[i]? = some oi) (hd : oi.dst = some d)
    (hs : Region.noSelect ops = true) (hf : Region.free md ops listed i = true) (hr : (Region.ready md ops listed).contains i = true)
    (hQ : ∀ c a w v, Q (.panic c) (a.put oi.dst v) w → Q (.panic c) a w) (hw : Region.wanted oi (yielded ops a.tmps) = true) (hS : S w)
    (hy : ∀ w, S w → (execOp a.eval oi).run P w = .ok (.value v) w)
    (h : wpAnyH P md ops Q S fuel (listed.setIfInBounds i true) (a.put (some d) v) w) : wpAnyH P md ops Q S (fuel + 1) listed a w :=
  wpAnyH_take (v := v) hi hs hf hr (fun c a w h => hQ c a w _ h) (Or.inl ⟨hw, hy⟩) hS (by rw [hd]; exact h)

end Go.Proofs.YtdicjpkcgeofjaaGreatDoor
end

section
namespace Go.Proofs.YtdicjpkcgeofjaaGreatDoor
open Go.RowKit

theorem step_append_row {P : Program} {w : World} {ops : Array Oper} {o : Oper} {a : Act} {K : Act → World → Prop} {Q : Exit → Act → World → Prop} {E : Prop} (hgd : o.guard = none) (s x : Operand) (t : TypeId)
    (ho : o.op = .call { callee := .builtin .append, args := #[s, x], argTypes := #[t, t] })
    (base : Nat) (e : TypeId) (i : TypeInfo) (z : Value) (size bytes : Nat) (ht : P.underlying t = some (.slice e)) (hi : P.info? e = some i) (hz : i.zero = some z)
    (hsize : i.size = size) (hby : i.bytes = bytes) (hzs : z.cells.size = size) (hsz : 0 < size)
    (v : Value) (n : Nat) (xs : List Value) (hs : a.eval s = v) (hown : w.ownsRow base e size v n xs)
    (ad : Option Addr) (m c : Nat) (news : List Value) (hx : a.eval x = .slice ad m c) (hl : news.length = m * size) (hrd : Rd w ad news) (h1 : ∀ u ∈ news, u.oneCell' = true)
    (h63 : n + m ≤ maxLen) (hbytes : (n + m) * bytes ≤ 140737488355328) (hbase : base ≤ w.heap.size)
    (h : ∀ v' w', w'.ownsRow base e size v' (n + m) (xs ++ news) → w.grownBy w' v.ownBlock → K (a.put o.dst v') w') : if Region.wanted o (yielded ops a.tmps) = true then Oper.wp P o a w K Q else E := by
  have hw : Region.wanted o (yielded ops a.tmps) = true := by simp [Region.wanted, hgd]
  rw [if_pos hw]
  cases ad with
  | some ad => exact wp_append_own w s x t ho base e i z size bytes ht hi hz hsize hby hzs hsz v n xs hs hown ad m c news hx hl (hrd.cells ad rfl) h1 h63 hbytes hbase (fun v' w' h2 h3 _ => h v' w' h2 h3)
  | none =>
    have hnews : news = [] := by
      rcases hrd with h | ⟨b, o, h, _⟩
      · exact h
      · cases h
    subst hnews
    have hm : m = 0 := by
      have : m * size = 0 := by simpa using hl.symm
      rcases Nat.mul_eq_zero.1 this with h | h
      · exact h
      · omega
    subst hm
    have hrun : (Builtin.append_ #[t, t] o.type #[v, .slice none 0 c]).run P w = .ok v w := by
      rcases hown.2 with ⟨rfl, rfl⟩ | ⟨g, cap, cur, rfl, _, _, hnc, _⟩
      · simp [Builtin.append_, run_underlying ht, sizeOf, typeInfo, hi, Builtin.lenOf, Builtin.firstCells]
      · simp [Builtin.append_, run_underlying ht, sizeOf, typeInfo, hi, Builtin.lenOf, Builtin.firstCells, hnc, storeCells]
    unfold Oper.wp
    simp [execOp, ho, resolve, invoke, builtin, hs, hx, hrun, Result.andThen]
    exact h v w (by simpa using hown) (World.grownBy.refl _ _)

theorem step_appG {α : Type} (L : Lay α) {P : Program} {w : World} {ops : Array Oper} {o : Oper} {a : Act} {K : Act → World → Prop} {Q : Exit → Act → World → Prop} {E : Prop} (hgd : o.guard = none) (s x : Operand) (t e : TypeId)
    (ho : o.op = .call { callee := .builtin .append, args := #[s, x], argTypes := #[t, t] }) (ht : P.underlying t = some (.slice e)) (z : Value) (bytes : Nat)
    (hinfo : (P.info? e).map (fun i => (i.zero, i.size, i.bytes)) = some (some z, L.sz, bytes)) (hzs : z.cells.size = L.sz) (hby : bytes ≤ 128)
    (B : Nat) (sa : Option Addr) (n sc : Nat) (xs : List α) (hs : a.eval s = .slice sa n sc) (hown : OwnG L e w B sa n sc xs)
    (ad : Option Addr) (m c : Nat) (ys : List α) (hx : a.eval x = .slice ad m c) (hr : RdG L w ad m ys) (hsum : n + m ≤ 4294967296) (hB : B ≤ w.heap.size)
    (h : ∀ a' c' w', OwnG L e w' B a' (n + m) c' (xs ++ ys) → w.grownBy w' (Value.slice sa n sc).ownBlock → K (a.put o.dst (.slice a' (n + m) c')) w') : if Region.wanted o (yielded ops a.tmps) = true then Oper.wp P o a w K Q else E := by
  obtain ⟨i, hi, hz0, hz1, hz2⟩ := info_parts hinfo
  refine step_append_row hgd s x t ho B e i z L.sz bytes ht hi hz0 hz1 hz2 hzs L.pos _ n _ hs hown.1 ad m c (ys.flatMap L.cells) hx (by rw [flat_len, hr.len]) hr.2.2 (flat_one L ys) ?_ ?_ hB ?_
  · unfold maxLen; omega
  · calc (n + m) * bytes ≤ 4294967296 * 128 := Nat.mul_le_mul hsum hby
      _ ≤ 140737488355328 := by decide
  · intro v' w' h1 h2
    obtain ⟨a', c', rfl⟩ := own_slice h1
    exact h a' c' w' ⟨by rw [List.flatMap_append]; exact h1, hsum⟩ h2

theorem Rd.grown {w w' : World} {row : Option Nat} {b o : Nat} {xs : List Value} (h : Rd w (some ⟨b, o, none⟩) xs) (hg : w.grownBy w' row) (hne : some b ≠ row) : Rd w' (some ⟨b, o, none⟩) xs := by
  rcases h with h | ⟨b', o', he, hb, hc⟩
  · exact .inl h
  · cases he
    exact .inr ⟨_, _, rfl, Nat.lt_of_lt_of_le hb hg.size, fun j u hu => (World.cell?_of_block (hg.block _ hb hne)).trans (hc j u hu)⟩
theorem RdG.grown {α : Type} {L : Lay α} {w w' : World} {row : Option Nat} {b o n : Nat} {xs : List α} (h : RdG L w (some ⟨b, o, none⟩) n xs) (hg : w.grownBy w' row) (hne : some b ≠ row) : RdG L w' (some ⟨b, o, none⟩) n xs := ⟨h.1, h.2.1, Rd.grown h.2.2 hg hne⟩

theorem step_appI {w : World} {ops : Array Oper} {o : Oper} {a : Act} {K : Act → World → Prop} {Q : Exit → Act → World → Prop} {E : Prop} (hgd : o.guard = none) (s x : Operand)
    (ho : o.op = .call { callee := .builtin .append, args := #[s, x], argTypes := #[25, 25] })
    (B : Nat) (v : Value) (n : Nat) (xs : List Int) (hs : a.eval s = v) (hown : w.ownsRow B 2 1 v n (xs.map (Value.int .i64)))
    (ad : Option Addr) (m c : Nat) (ys : List Int) (hx : a.eval x = .slice ad m c) (hr : RdI w ad m ys) (hsum : n + m ≤ 4294967296) (hB : B ≤ w.heap.size)
    (h : ∀ a' c' w', OwnI w' B a' (n + m) c' (xs ++ ys) → w.grownBy w' v.ownBlock → K (a.put o.dst (.slice a' (n + m) c')) w') : if Region.wanted o (yielded ops a.tmps) = true then Oper.wp Tryz.prog o a w K Q else E := by
  obtain ⟨i, hi, hz0, hz1, hz2⟩ := info_parts Tryz.info_i64
  refine step_append_row hgd s x 25 ho B 2 i (.int .i64 0) 1 8 Tryz.underlying25 hi hz0 hz1 hz2 rfl (by decide) v n _ hs hown ad m c (ys.map (Value.int .i64)) hx (by simpa using hr.len) hr.2.2 ?_ ?_ ?_ hB ?_
  · intro u hu
    obtain ⟨_, _, rfl⟩ := List.mem_map.1 hu
    rfl
  · unfold maxLen; omega
  · omega
  · intro v' w' h1 h2
    obtain ⟨a', c', rfl⟩ := own_slice h1
    exact h a' c' w' ⟨by simpa using h1, hsum⟩ h2

end Go.Proofs.YtdicjpkcgeofjaaGreatDoor
end

section
namespace Go.Proofs.YtdicjpkcgeofjaaGreatDoor

theorem dec_small {u : Nat} (h : u < 10) : Lib.decDigits u = [UInt8.ofNat (48 + u)] := by rw [Lib.decDigits, dif_pos h]
theorem dec_big {u : Nat} (h : ¬ u < 10) : Lib.decDigits u = Lib.decDigits (u / 10) ++ [UInt8.ofNat (48 + u % 10)] := by rw [Lib.decDigits, dif_neg h]
theorem dig_nat {d : Nat} (h : d < 10) : (UInt8.ofNat (48 + d)).toNat = 48 + d := by
  rw [UInt8.toNat_ofNat']; omega
theorem dec_chars (u : Nat) : ∀ c ∈ Lib.decDigits u, 48 ≤ c.toNat ∧ c.toNat ≤ 57 := by
  induction u using Nat.strongRecOn with
  | _ u ih =>
    intro c hc
    by_cases h : u < 10
    · rw [dec_small h, List.mem_singleton] at hc
      rw [hc, dig_nat h]; omega
    · rw [dec_big h, List.mem_append, List.mem_singleton] at hc
      rcases hc with hc | hc
      · exact ih (u / 10) (by omega) c hc
      · have : u % 10 < 10 := Nat.mod_lt _ (by decide)
        rw [hc, dig_nat this]; omega
theorem dec_ne (u : Nat) : Lib.decDigits u ≠ [] := by
  by_cases h : u < 10
  · rw [dec_small h]; simp
  · rw [dec_big h]; simp
theorem decFrom_append : ∀ (l r : List UInt8) (acc : Nat), Lib.decFrom acc (l ++ r) = (Lib.decFrom acc l).bind fun a => Lib.decFrom a r
  | [], r, acc => rfl
  | b :: l, r, acc => by
    rw [List.cons_append, Lib.decFrom, Lib.decFrom]
    cases Lib.digitVal b with
    | none => rfl
    | some d => exact decFrom_append l r _
theorem dec_val (u : Nat) : Lib.decFrom 0 (Lib.decDigits u) = some u := by
  induction u using Nat.strongRecOn with
  | _ u ih =>
    by_cases h : u < 10
    · rw [dec_small h]
      simp only [Lib.decFrom, Lib.digitVal, dig_nat h]
      rw [if_pos (by omega)]
      simp
    · have hm : u % 10 < 10 := Nat.mod_lt _ (by decide)
      rw [dec_big h, decFrom_append, ih (u / 10) (by omega)]
      simp only [Option.bind_some, Lib.decFrom, Lib.digitVal, dig_nat hm]
      rw [if_pos (by omega)]
      simp only [Option.some.injEq]
      omega
theorem dec_inj {u v : Nat} (h : Lib.decDigits u = Lib.decDigits v) : u = v := by
  have h1 := dec_val u
  rw [h, dec_val] at h1
  exact (Option.some.inj h1).symm
theorem pu_append : ∀ (l : List UInt8) (c : UInt8) (acc a : Nat), Lib.parseUint10 acc l = .ok a → Lib.parseUint10 acc (l ++ [c]) = Lib.parseUint10 a [c]
  | [], c, acc, a, h => by
    simp only [Lib.parseUint10] at h
    injection h with h
    subst h; rfl
  | b :: l, c, acc, a, h => by
    rw [List.cons_append, Lib.parseUint10]
    rw [Lib.parseUint10] at h
    split at h
    · rename_i hb
      rw [if_pos hb]
      split at h
      · cases h
      · rename_i h2
        rw [if_neg h2]
        split at h
        · cases h
        · rename_i h3
          rw [if_neg h3]
          exact pu_append l c _ a h
    · cases h
theorem pu_dec (u : Nat) (hu : u < 18446744073709551616) : Lib.parseUint10 0 (Lib.decDigits u) = .ok u := by
  induction u using Nat.strongRecOn with
  | _ u ih =>
    by_cases h : u < 10
    · rw [dec_small h]
      simp only [Lib.parseUint10, dig_nat h]
      rw [if_pos (by omega), if_neg (by omega), if_neg (by omega)]
      simp
    · have hm : u % 10 < 10 := Nat.mod_lt _ (by decide)
      rw [dec_big h, pu_append _ _ _ _ (ih (u / 10) (by omega) (by omega))]
      simp only [Lib.parseUint10, dig_nat hm]
      rw [if_pos (by omega), if_neg (by omega), if_neg (by omega)]
      congr 1
      omega
theorem mag_dec (u : Nat) (hu : u < 18446744073709551616) : Lib.parseMag (Lib.decDigits u) = .ok u := by
  rw [Lib.parseMag, if_neg (dec_ne u), pu_dec u hu]
/-- A number's numeral reads as the number. -/
theorem atoi_itoa (n : Int) (h0 : -9223372036854775808 ≤ n) (h1 : n ≤ 9223372036854775807) : Lib.parseIntB 64 (Lib.itoa n) = .ok n := by
  rw [Lib.parseIntB_64]
  unfold Lib.itoa
  by_cases hn : n < 0
  · rw [if_pos hn, Lib.atoiAll_minus, mag_dec _ (by omega)]
    simp only [Lib.signed]
    rw [if_neg (by omega)]
    congr 1
    omega
  · rw [if_neg hn]
    obtain ⟨c, r, hc⟩ := List.exists_cons_of_ne_nil (dec_ne n.toNat)
    have hch := dec_chars n.toNat c (by rw [hc]; simp)
    rw [hc, Lib.atoiAll_plain c r (by omega) (by omega), ← hc, mag_dec _ (by omega)]
    simp only [Lib.signless]
    rw [if_neg (by omega)]
    congr 1
    omega
theorem itoa_inj {m n : Int} (h0 : -9223372036854775808 ≤ n) (h1 : n ≤ 9223372036854775807) (h2 : -9223372036854775808 ≤ m) (h3 : m ≤ 9223372036854775807) (h : Lib.itoa m = Lib.itoa n) : m = n := by
  have e := atoi_itoa m h2 h3
  rw [h, atoi_itoa n h0 h1] at e
  injection e with e
  exact e.symm
theorem itoa_pos {n : Int} (h : 0 ≤ n) : Lib.itoa n = Lib.decDigits n.toNat := if_neg (by omega)
theorem itoa_minus {n : Int} (h : n < 0) : Lib.itoa n = 45 :: Lib.decDigits n.natAbs := if_pos h
theorem itoa_chars (n : Int) : ∀ c ∈ Lib.itoa n, c.toNat = 45 ∨ (48 ≤ c.toNat ∧ c.toNat ≤ 57) := by
  intro c hc
  by_cases h : n < 0
  · rw [itoa_minus h] at hc
    rcases List.mem_cons.1 hc with e | m
    · subst e; exact .inl rfl
    · exact .inr (dec_chars _ c m)
  · rw [itoa_pos (by omega)] at hc
    exact .inr (dec_chars _ c hc)
theorem itoa_ne (n : Int) : Lib.itoa n ≠ [] := by
  by_cases h : n < 0
  · rw [itoa_minus h]; simp
  · rw [itoa_pos (by omega)]; exact dec_ne _
theorem dec_len {u k : Nat} (h : u < 10 ^ (k + 1)) : (Lib.decDigits u).length ≤ k + 1 := by
  induction k generalizing u with
  | zero => rw [dec_small (by simpa using h)]; simp
  | succ k ih =>
    by_cases hs : u < 10
    · rw [dec_small hs]; simp
    · rw [dec_big hs, List.length_append, List.length_singleton]
      have := ih (u := u / 10) (by rw [Nat.pow_succ] at h; omega)
      omega

end Go.Proofs.YtdicjpkcgeofjaaGreatDoor
end

section
namespace Go.Proofs.YtdicjpkcgeofjaaGreatDoor

theorem splitL_cons {c : UInt8} {l r : List UInt8} (h : ∀ x ∈ l, x ≠ c) : splitL c (l ++ c :: r) = l :: splitL c r := by
  have := splitL_hit (c := c) (l := l ++ c :: r) (k := l.length) (by simp) (fun j x hj hx => h x (by rw [List.getElem?_append_left hj] at hx; exact List.mem_of_getElem? hx))
  rw [this]
  simp
def joinL (c : UInt8) : List (List UInt8) → List UInt8
  | [] => []
  | [p] => p
  | p :: q :: r => p ++ c :: joinL c (q :: r)
theorem splitL_ne (c : UInt8) (l : List UInt8) : splitL c l ≠ [] := by
  cases l with
  | nil => simp [splitL]
  | cons b l =>
    rw [splitL]
    split
    · simp
    · split <;> simp
theorem join_split (c : UInt8) : ∀ l : List UInt8, joinL c (splitL c l) = l
  | [] => rfl
  | b :: l => by
    have ih := join_split c l
    rw [splitL]
    cases hb : b == c
    · simp only [Bool.false_eq_true, if_false]
      cases hs : splitL c l with
      | nil => exact absurd hs (splitL_ne c l)
      | cons p ps =>
        rw [hs] at ih
        simp only
        cases ps with
        | nil => simp only [joinL] at ih ⊢; rw [ih]
        | cons q r => simp only [joinL] at ih ⊢; rw [List.cons_append, ih]
    · simp only [if_true]
      have e : b = c := by simpa using hb
      cases hs : splitL c l with
      | nil => exact absurd hs (splitL_ne c l)
      | cons p ps =>
        rw [hs] at ih
        simp only [joinL, List.nil_append]
        rw [ih, e]
theorem split_none {c : UInt8} : ∀ {l : List UInt8}, ∀ p ∈ splitL c l, ∀ x ∈ p, x ≠ c
  | [], p, hp, x, hx => by simp [splitL] at hp; subst hp; simp at hx
  | b :: l, p, hp, x, hx => by
    have ih := @split_none c l
    rw [splitL] at hp
    cases hb : b == c
    · rw [hb] at hp
      simp only [Bool.false_eq_true, if_false] at hp
      have hbc : b ≠ c := by simpa using hb
      cases hs : splitL c l with
      | nil => exact absurd hs (splitL_ne c l)
      | cons q qs =>
        rw [hs] at hp ih
        rcases List.mem_cons.1 hp with e | m
        · subst e
          rcases List.mem_cons.1 hx with e | m2
          · subst e; exact hbc
          · exact ih q (by simp) x m2
        · exact ih p (by simp [m]) x hx
    · rw [hb] at hp
      simp only [if_true] at hp
      rcases List.mem_cons.1 hp with e | m
      · subst e; simp at hx
      · exact ih p m x hx
/-- A byte of a text is the separator or stands in a piece. -/
theorem split_mem {c : UInt8} : ∀ {l : List UInt8} {x : UInt8}, x ∈ l → x = c ∨ ∃ p ∈ splitL c l, x ∈ p
  | b :: l, x, hx => by
    have ih := @split_mem c l x
    rw [splitL]
    cases hb : b == c
    · simp only [Bool.false_eq_true, if_false]
      cases hs : splitL c l with
      | nil => exact absurd hs (splitL_ne c l)
      | cons q qs =>
        rw [hs] at ih
        rcases List.mem_cons.1 hx with e | m
        · exact .inr ⟨b :: q, by simp, by simp [e]⟩
        · rcases ih m with h | ⟨p, hp, hxp⟩
          · exact .inl h
          · rcases List.mem_cons.1 hp with e | m2
            · exact .inr ⟨b :: q, by simp, by rw [← e]; simp [hxp]⟩
            · exact .inr ⟨p, by simp [m2], hxp⟩
    · have e : b = c := by simpa using hb
      simp only [if_true]
      rcases List.mem_cons.1 hx with e2 | m
      · exact .inl (e2.trans e)
      · rcases ih m with h | ⟨p, hp, hxp⟩
        · exact .inl h
        · exact .inr ⟨p, by simp [hp], hxp⟩
theorem index_at {c : UInt8} : ∀ {l : List UInt8} (r : List UInt8), (∀ x ∈ l, x ≠ c) → Lib.index (l ++ c :: c :: r) [c, c] = l.length
  | [], r, _ => by simp [Lib.index]
  | b :: l, r, h => by
    have hb : b ≠ c := h b (by simp)
    have ih := index_at (c := c) (l := l) r fun x hx => h x (by simp [hx])
    rw [List.cons_append, Lib.index, ih]
    rw [if_neg, if_neg]
    · simp
    · simp only [beq_iff_eq]; omega
    · simp only [List.isPrefixOf_cons_cons, Bool.and_eq_true, beq_iff_eq]
      exact fun e => hb e.1.symm
theorem cut_at {c : UInt8} {l : List UInt8} (r : List UInt8) (h : ∀ x ∈ l, x ≠ c) : Lib.cut (l ++ c :: c :: r) [c, c] = (l, r, true) := by
  rw [Lib.cut, index_at r h, if_pos (by omega)]
  have e : ((l.length : Nat) : Int).toNat = l.length := by simp
  rw [e]
  simp
theorem index_split : ∀ (s sub : List UInt8), 0 ≤ Lib.index s sub → s = s.take (Lib.index s sub).toNat ++ sub ++ s.drop ((Lib.index s sub).toNat + sub.length)
  | [], sub, h => by
    rw [Lib.index] at h ⊢
    by_cases e : sub.isEmpty = true
    · rw [if_pos e]
      have : sub = [] := by simpa using e
      subst this; simp
    · rw [if_neg e] at h; omega
  | b :: l, sub, h => by
    have ih := index_split l sub
    rw [Lib.index] at h ⊢
    by_cases e : sub.isPrefixOf (b :: l) = true
    · rw [if_pos e]
      obtain ⟨t, ht⟩ := List.isPrefixOf_iff_prefix.1 e
      simp only [Int.toNat_zero, List.take_zero, List.nil_append, Nat.zero_add]
      rw [← ht]; simp
    · rw [if_neg e] at h ⊢
      by_cases e2 : (Lib.index l sub == -1) = true
      · rw [if_pos e2] at h; omega
      · rw [if_neg e2] at h ⊢
        have hge := Lib.index_ge l sub
        have hne : Lib.index l sub ≠ -1 := by simpa using e2
        have := ih (by omega)
        rw [show (Lib.index l sub + 1).toNat = (Lib.index l sub).toNat + 1 by omega, List.take_succ_cons, show (Lib.index l sub).toNat + 1 + sub.length = ((Lib.index l sub).toNat + sub.length) + 1 by omega, List.drop_succ_cons]
        rw [List.cons_append, List.cons_append, ← this]
/-- What is cut off is what stood there. -/
theorem cut_of {s sub : List UInt8} (h : (Lib.cut s sub).2.2 = true) : s = (Lib.cut s sub).1 ++ sub ++ (Lib.cut s sub).2.1 := by
  rw [Lib.cut] at h ⊢
  by_cases e : 0 ≤ Lib.index s sub
  · rw [if_pos e]
    exact index_split s sub e
  · rw [if_neg e] at h; cases h
theorem cut_miss {s sub : List UInt8} (h : (Lib.cut s sub).2.2 = false) : (Lib.cut s sub).2.1 = [] := by
  rw [Lib.cut] at h ⊢
  by_cases e : 0 ≤ Lib.index s sub
  · rw [if_pos e] at h; cases h
  · rw [if_neg e]
/-- A span's text. -/
def spanT (a b : Int) : List UInt8 := Lib.itoa a ++ 46 :: 46 :: Lib.itoa b
theorem itoa_nodot (n : Int) : ∀ x ∈ Lib.itoa n, x ≠ 46 := fun x hx e => by
  have := itoa_chars n x hx
  rw [e] at this
  revert this; decide
theorem itoa_noslash (n : Int) : ∀ x ∈ Lib.itoa n, x ≠ 47 := fun x hx e => by
  have := itoa_chars n x hx
  rw [e] at this
  revert this; decide
theorem cut_span (a b : Int) : Lib.cut (spanT a b) [46, 46] = (Lib.itoa a, Lib.itoa b, true) := cut_at _ (itoa_nodot a)
theorem split_span (a b : Int) : splitL 46 (spanT a b) = [Lib.itoa a, [], Lib.itoa b] := by
  rw [spanT, splitL_cons (itoa_nodot a)]
  have := splitL_cons (c := 46) (l := []) (r := Lib.itoa b) (by simp)
  rw [List.nil_append] at this
  rw [this, splitL_miss (itoa_nodot b)]
theorem span_inj {a b c d : Int} (ha : -9223372036854775808 ≤ a ∧ a ≤ 9223372036854775807) (hb : -9223372036854775808 ≤ b ∧ b ≤ 9223372036854775807) (hc : -9223372036854775808 ≤ c ∧ c ≤ 9223372036854775807) (hd : -9223372036854775808 ≤ d ∧ d ≤ 9223372036854775807)
    (h : spanT a b = spanT c d) : a = c ∧ b = d := by
  have h1 := cut_span a b
  rw [h, cut_span] at h1
  injection h1 with h2 h3
  injection h3 with h4 _
  exact ⟨(itoa_inj ha.1 ha.2 hc.1 hc.2 h2).symm, (itoa_inj hb.1 hb.2 hd.1 hd.2 h4).symm⟩

end Go.Proofs.YtdicjpkcgeofjaaGreatDoor
end

section
namespace Go.Proofs.YtdicjpkcgeofjaaGreatDoor
open Go.RowKit

def selN (n : Nat) (p : Nat → Bool) : List Int := ((List.range n).filter p).map fun (i : Nat) => (i : Int)
theorem selN_yes {k : Nat} {p : Nat → Bool} (h : p k = true) : selN (k + 1) p = selN k p ++ [(k : Int)] := by
  simp [selN, List.range_succ, h]
theorem selN_no {k : Nat} {p : Nat → Bool} (h : p k = false) : selN (k + 1) p = selN k p := by
  simp [selN, List.range_succ, h]
theorem selN_len (k : Nat) (p : Nat → Bool) : (selN k p).length ≤ k := by
  rw [selN, List.length_map]
  exact Nat.le_trans (List.length_filter_le _ _) (by simp)
def OwnV (w : World) (B : Nat) (v : Value) (zs : List Int) : Prop := ∃ a n c, v = .slice a n c ∧ OwnI w B a n c zs
theorem OwnV.isNil (w : World) (B : Nat) : OwnV w B (.slice none 0 0) [] := ⟨_, _, _, rfl, OwnI.isNil w B, by decide⟩
theorem OwnV.lit0 (w : World) {B : Nat} (hB : B ≤ w.heap.size) : OwnV (w.alloc (.cells #[] 2)) B (.slice (some ⟨w.heap.size, 0, none⟩) 0 0) [] := ⟨_, _, _, rfl, OwnI.lit0 w hB, by decide⟩
/-- A list and a code. -/
def RetLC (w : World) (zs : List Int) (code : Int) (e : Ending) (w' : World) : Prop := ∃ v, e = .returned (.tuple #[v, .int .i64 code]) ∧ NewI w w' zs v
def RetBC (w : World) (b : Bool) (code : Int) (e : Ending) (w' : World) : Prop := e = .returned (.tuple #[.bool b, .int .i64 code]) ∧ Ext w w'
def RetIC (w : World) (z : Int) (code : Int) (e : Ending) (w' : World) : Prop := e = .returned (.tuple #[.int .i64 z, .int .i64 code]) ∧ Ext w w'
theorem NewI.nil (w w' : World) (h : Ext w w') : NewI w w' [] (.slice none 0 0) := ⟨none, 0, 0, rfl, ⟨OwnI.isNil _ _, by decide⟩, h⟩
theorem NewI.pre {w0 w w' : World} {zs : List Int} {v : Value} (h0 : Ext w0 w) (h : NewI w w' zs v) : NewI w0 w' zs v := by
  obtain ⟨a, n, c, rfl, ho, hx⟩ := h
  exact ⟨a, n, c, rfl, ho.mono h0.size, h0.trans hx⟩

end Go.Proofs.YtdicjpkcgeofjaaGreatDoor
end

section
namespace Go.Proofs.YtdicjpkcgeofjaaGreatDoor
open Go.ChangeShapes Go.WideShapes Go.ChangeAt Go.RowKit
open Go.ChangeMaps (open_string shut_string)

theorem own : ownKnob Tryz.prog.godebug = none := by kernel_rfl
theorem laidOut : laidOutB Tryz.prog = true := by kernel_rfl

/-- Cells from an address on, as 'Rd' has them. -/
theorem rd_of_cells {w : World} {x : Addr} {xs : List Value} (h : ∀ i u, xs[i]? = some u → w.cell? (x.add i) = some u) : Rd w (some x) xs := by
  cases xs with
  | nil => exact .inl rfl
  | cons v vs =>
    have h0 := h 0 v rfl
    obtain ⟨b, o, s⟩ := x
    have hs : s = none := by simpa [Addr.add] using World.cell?_spot h0
    subst hs
    refine .inr ⟨b, o, rfl, ?_, fun j u hu => ?_⟩
    · have := World.block_lt_of_cell? w _ h0
      simpa [Addr.add] using this
    · have := h j u hu
      rwa [Addr.add_lit] at this

/-- A slice of ints that came in: n elements, read as zs; how many is not bounded. -/
def InI (w : World) (a : Option Addr) (n : Nat) (zs : List Int) : Prop := zs.length = n ∧ Rd w a (zs.map (Value.int .i64))
theorem InI.rdI {w : World} {a : Option Addr} {n : Nat} {zs : List Int} (h : InI w a n zs) (hn : n ≤ 4294967296) : RdI w a n zs := ⟨h.1, hn, h.2⟩

section
variable {H : Type} {enc : TypeId × Value → H} {w : World} {spare : Nat → Bool} {held : Bool} {a : Option Addr} {n c : Nat} {d : DataW H} {p : List MemPlace} {t : TypeId} {v : Value}

theorem open_inI (h : DataW.Trod enc Tryz.prog w 0 spare held 25 (.slice a n c) d p) : ∃ zs, InI w a n zs := by
  obtain ⟨fuel, hf⟩ := h
  rcases open_ints Tryz.underlying25 Tryz.underlying2 (by kernel_rfl) hf with ⟨hcs, _⟩ | ⟨x, l, c', zs, hcs, _, hl, hm, hz, _, hcell, hwz⟩
  · simp [Value.cells] at hcs
    obtain ⟨rfl, rfl, rfl⟩ := hcs
    exact ⟨[], rfl, .inl rfl⟩
  · simp [Value.cells] at hcs
    obtain ⟨rfl, rfl, rfl⟩ := hcs
    have hln : n ≤ zs.length := by rw [hz]; split <;> omega
    refine ⟨zs.take n, by simp; omega, rd_of_cells fun i u hu => ?_⟩
    have hi := (List.getElem?_eq_some_iff.1 hu).1
    simp at hi
    rw [hcell i (by omega)]
    simp [List.getElem?_take, show i < zs.length by omega] at hu
    simp [hu.2, show i < zs.length by omega]
theorem trod_lt (h : DataW.Trod enc Tryz.prog w 0 spare held t v d p) : ∀ x ∈ p, x.block < w.heap.size := by
  obtain ⟨m, hm⟩ := h
  exact DataW.trod_lt m _ _ _ hm
end
end Go.Proofs.YtdicjpkcgeofjaaGreatDoor
end
