/-
  append inside a statement whose order is open, as one step of the region; append of whatever elements likewise.
-/
import Derived.Test.YtfglmoedicijkaaGreatDoorH
import Derived.Deep.RegionLaw
namespace Go.Proofs.YtfglmoedicijkaaGreatDoor
open Go.RowKit

theorem step_append_row {P : Program} {w : World} {ops : Array Oper} {o : Oper} {a : Act} {K : Act → World → Prop} {Q : Exit → Act → World → Prop} {E : Prop} (hgd : o.guard = none) (s x : Operand) (t : TypeId)
    (ho : o.op = .call { callee := .builtin .append, args := #[s, x], argTypes := #[t, t] })
    (base : Nat) (e : TypeId) (i : TypeInfo) (z : Value) (size bytes : Nat) (ht : P.underlying t = some (.slice e)) (hi : P.info? e = some i) (hz : i.zero = some z)
    (hsize : i.size = size) (hby : i.bytes = bytes) (hzs : z.cells.size = size) (hsz : 0 < size)
    (v : Value) (n : Nat) (xs : List Value) (hs : a.eval s = v) (hown : w.ownsRow base e size v n xs)
    (ad : Option Addr) (m c : Nat) (news : List Value) (hx : a.eval x = .slice ad m c) (hl : news.length = m * size) (hrd : Rd w ad news) (h1 : ∀ u ∈ news, u.oneCell' = true)
    (h63 : n + m ≤ maxLen) (hbytes : (n + m) * bytes ≤ 140737488355328) (hbase : base ≤ w.heap.size)
    (h : ∀ v' w', w'.ownsRow base e size v' (n + m) (xs ++ news) → w.grownBy w' v.ownBlock → K (a.put o.dst v') w') : if Region.wanted o (yielded ops a.tmps) = true then Oper.wp P o a w K Q else E := by
  have hw : Region.wanted o (yielded ops a.tmps) = true := by simp [Region.wanted, hgd]
  rw [if_pos hw]
  cases ad with
  | some ad => exact wp_append_own w s x t ho base e i z size bytes ht hi hz hsize hby hzs hsz v n xs hs hown ad m c news hx hl (hrd.cells ad rfl) h1 h63 hbytes hbase (fun v' w' h2 h3 _ => h v' w' h2 h3)
  | none =>
    have hnews : news = [] := by
      rcases hrd with h | ⟨b, o, h, _⟩
      · exact h
      · cases h
    subst hnews
    have hm : m = 0 := by
      have : m * size = 0 := by simpa using hl.symm
      rcases Nat.mul_eq_zero.1 this with h | h
      · exact h
      · omega
    subst hm
    have hrun : (Builtin.append_ #[t, t] o.type #[v, .slice none 0 c]).run P w = .ok v w := by
      rcases hown.2 with ⟨rfl, rfl⟩ | ⟨g, cap, cur, rfl, _, _, hnc, _⟩
      · simp [Builtin.append_, run_underlying ht, sizeOf, typeInfo, hi, Builtin.lenOf, Builtin.firstCells]
      · simp [Builtin.append_, run_underlying ht, sizeOf, typeInfo, hi, Builtin.lenOf, Builtin.firstCells, hnc, storeCells]
    unfold Oper.wp
    simp [execOp, ho, resolve, invoke, builtin, hs, hx, hrun, Result.andThen]
    exact h v w (by simpa using hown) (World.grownBy.refl _ _)

theorem step_appG {α : Type} (L : Lay α) {P : Program} {w : World} {ops : Array Oper} {o : Oper} {a : Act} {K : Act → World → Prop} {Q : Exit → Act → World → Prop} {E : Prop} (hgd : o.guard = none) (s x : Operand) (t e : TypeId)
    (ho : o.op = .call { callee := .builtin .append, args := #[s, x], argTypes := #[t, t] }) (ht : P.underlying t = some (.slice e)) (z : Value) (bytes : Nat)
    (hinfo : (P.info? e).map (fun i => (i.zero, i.size, i.bytes)) = some (some z, L.sz, bytes)) (hzs : z.cells.size = L.sz) (hby : bytes ≤ 128)
    (B : Nat) (sa : Option Addr) (n sc : Nat) (xs : List α) (hs : a.eval s = .slice sa n sc) (hown : OwnG L e w B sa n sc xs)
    (ad : Option Addr) (m c : Nat) (ys : List α) (hx : a.eval x = .slice ad m c) (hr : RdG L w ad m ys) (hsum : n + m ≤ 4294967296) (hB : B ≤ w.heap.size)
    (h : ∀ a' c' w', OwnG L e w' B a' (n + m) c' (xs ++ ys) → w.grownBy w' (Value.slice sa n sc).ownBlock → K (a.put o.dst (.slice a' (n + m) c')) w') : if Region.wanted o (yielded ops a.tmps) = true then Oper.wp P o a w K Q else E := by
  obtain ⟨i, hi, hz0, hz1, hz2⟩ := info_parts hinfo
  refine step_append_row hgd s x t ho B e i z L.sz bytes ht hi hz0 hz1 hz2 hzs L.pos _ n _ hs hown.1 ad m c (ys.flatMap L.cells) hx (by rw [flat_len, hr.len]) hr.2.2 (flat_one L ys) ?_ ?_ hB ?_
  · unfold maxLen; omega
  · calc (n + m) * bytes ≤ 4294967296 * 128 := Nat.mul_le_mul hsum hby
      _ ≤ 140737488355328 := by decide
  · intro v' w' h1 h2
    obtain ⟨a', c', rfl⟩ := own_slice h1
    exact h a' c' w' ⟨by rw [List.flatMap_append]; exact h1, hsum⟩ h2

theorem Rd.grown {w w' : World} {row : Option Nat} {b o : Nat} {xs : List Value} (h : Rd w (some ⟨b, o, none⟩) xs) (hg : w.grownBy w' row) (hne : some b ≠ row) : Rd w' (some ⟨b, o, none⟩) xs := by
  rcases h with h | ⟨b', o', he, hb, hc⟩
  · exact .inl h
  · cases he
    exact .inr ⟨_, _, rfl, Nat.lt_of_lt_of_le hb hg.size, fun j u hu => (World.cell?_of_block (hg.block _ hb hne)).trans (hc j u hu)⟩
theorem RdG.grown {α : Type} {L : Lay α} {w w' : World} {row : Option Nat} {b o n : Nat} {xs : List α} (h : RdG L w (some ⟨b, o, none⟩) n xs) (hg : w.grownBy w' row) (hne : some b ≠ row) : RdG L w' (some ⟨b, o, none⟩) n xs := ⟨h.1, h.2.1, Rd.grown h.2.2 hg hne⟩

theorem step_appI {w : World} {ops : Array Oper} {o : Oper} {a : Act} {K : Act → World → Prop} {Q : Exit → Act → World → Prop} {E : Prop} (hgd : o.guard = none) (s x : Operand)
    (ho : o.op = .call { callee := .builtin .append, args := #[s, x], argTypes := #[24, 24] })
    (B : Nat) (v : Value) (n : Nat) (xs : List Int) (hs : a.eval s = v) (hown : w.ownsRow B 2 1 v n (xs.map (Value.int .i64)))
    (ad : Option Addr) (m c : Nat) (ys : List Int) (hx : a.eval x = .slice ad m c) (hr : RdI w ad m ys) (hsum : n + m ≤ 4294967296) (hB : B ≤ w.heap.size)
    (h : ∀ a' c' w', OwnI w' B a' (n + m) c' (xs ++ ys) → w.grownBy w' v.ownBlock → K (a.put o.dst (.slice a' (n + m) c')) w') : if Region.wanted o (yielded ops a.tmps) = true then Oper.wp Tryz.prog o a w K Q else E := by
  obtain ⟨i, hi, hz0, hz1, hz2⟩ := info_parts Tryz.info_i64
  refine step_append_row hgd s x 24 ho B 2 i (.int .i64 0) 1 8 Tryz.underlying24 hi hz0 hz1 hz2 rfl (by decide) v n _ hs hown ad m c (ys.map (Value.int .i64)) hx (by simpa using hr.len) hr.2.2 ?_ ?_ ?_ hB ?_
  · intro u hu
    obtain ⟨_, _, rfl⟩ := List.mem_map.1 hu
    rfl
  · unfold maxLen; omega
  · omega
  · intro v' w' h1 h2
    obtain ⟨a', c', rfl⟩ := own_slice h1
    exact h a' c' w' ⟨by simpa using h1, hsum⟩ h2

end Go.Proofs.YtfglmoedicijkaaGreatDoor
