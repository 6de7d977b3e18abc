/-
  The reference's draws of alphabets and of ignored letters.
-/
import Derived.Test.YtdicjpkcgeofjaaGreatDoorDS
import Derived.Test.YtdicjpkcgeofjaaGreatDoorDT
import Derived.Test.YtdicjpkcgeofjaaGreatDoorM0
import Derived.Test.YtdicjpkcgeofjaaGreatDoorINS
import Derived.Maps.AppendAt
namespace Go.Proofs.YtdicjpkcgeofjaaGreatDoor
open Go.RowKit
attribute [local go_sem ↓] Go.wp_at_zero Go.wp_at_succ

/-- append, with word of where the new row lies. -/
theorem wpList_appSat {P : Program} {w : World} {ops : Array Oper} {rest : List Oper} {o : Oper} {a : Act} {Q : Exit → Act → World → Prop} (hgd : o.guard = none) (s x : Operand) (t : TypeId)
    (ho : o.op = .call { callee := .builtin .append, args := #[s, x], argTypes := #[t, t] }) (ht : P.underlying t = some (.slice 9))
    (hinfo : (P.info? 9).map (fun i => (i.zero, i.size, i.bytes)) = some (some (.string ⟨#[]⟩), 1, 16))
    (B : Nat) (sa : Option Addr) (n sc : Nat) (xs : List ByteArray) (hs : a.eval s = .slice sa n sc) (hown : OwnG layS 9 w B sa n sc xs)
    (ad : Addr) (m c : Nat) (ys : List ByteArray) (hx : a.eval x = .slice (some ad) m c) (hr : RdG layS w (some ad) m ys) (hsum : n + m ≤ 4294967296) (hB : B ≤ w.heap.size)
    (h : ∀ a' c' w', OwnG layS 9 w' B a' (n + m) c' (xs ++ ys) → w.grownBy w' (Value.slice sa n sc).ownBlock → ((Value.slice a' (n + m) c').ownBlock = (Value.slice sa n sc).ownBlock ∨ (Value.slice a' (n + m) c').ownBlock = some w.heap.size) → wpList P ops Q rest (a.put o.dst (.slice a' (n + m) c')) w') : wpList P ops Q (o :: rest) a w := by
  obtain ⟨i, hi, hz0, hz1, hz2⟩ := info_parts hinfo
  refine wpList_append_own_at w hgd s x t ho B 9 i (.string ⟨#[]⟩) 1 16 ht hi hz0 hz1 hz2 rfl (by decide) _ n _ hs hown.1 ad m c (ys.flatMap layS.cells) hx (by rw [flat_len, hr.len]; rfl) (hr.2.2.cells ad rfl) (flat_one layS ys) ?_ ?_ hB ?_
  · unfold maxLen; omega
  · omega
  · intro v' w' h1 h2 _ h4
    obtain ⟨a', c', rfl⟩ := own_slice h1
    exact h a' c' w' ⟨by rw [List.flatMap_append]; exact h1, hsum⟩ h2 h4
theorem Box.grown {w w' : World} {b : Nat} {xs : Array Value} {T : TypeId} {r : Option Nat} (h : Box w b xs T) (hg : w.grownBy w' r) (hne : r ≠ some b) : Box w' b xs T := (hg.block b h.lt (fun e => hne e.symm)).trans h

theorem own_ne0 (b n c : Nat) : ∀ q, (Value.slice (some ⟨b, 0, none⟩) n c).ownBlock = some q → q ≠ b + 1 := fun q hq => by
  have : b = q := by simpa [Value.ownBlock] using hq
  omega
theorem own_ne1 {w : World} {o : Obj} {a a' : Option Addr} {n n' c c' b : Nat} (hat : (Value.slice a' n' c').ownBlock = (Value.slice a n c).ownBlock ∨ (Value.slice a' n' c').ownBlock = some (w.alloc o).heap.size)
    (hne : ∀ q, (Value.slice a n c).ownBlock = some q → q ≠ b) (hb : b < w.heap.size) : ∀ q, (Value.slice a' n' c').ownBlock = some q → q ≠ b := fun q hq => by
  rcases hat with e | e
  · exact hne q (e.symm.trans hq)
  · rw [e, World.size_alloc] at hq
    have := Option.some.inj hq
    omega

/-- What a draw of an alphabet hands back. -/
def DrewA (m : Nat) (w : World) (g : Nat) (e : Ending) (w' : World) : Prop := ∃ (a : Option Addr) (c : Nat) (ss : List ByteArray), e = .returned (.slice a ss.length c) ∧ ss.length ≤ m ∧ (∀ s ∈ ss, s.size ≤ 68) ∧ OwnG layS 9 w' w.heap.size a ss.length c ss ∧ Drew w g w'
def someA (e : Ending) : Prop := ∀ a n c, e = .returned (.slice a n c) → 0 < n
theorem rot_mem {l : List ByteArray} {k : Nat} {m : Nat} (h : ∀ s ∈ l, s.size ≤ m) : ∀ s ∈ l.drop k ++ l.take k, s.size ≤ m := fun s hs => by
  rcases List.mem_append.1 hs with hs | hs
  · exact h s (List.mem_of_mem_drop hs)
  · exact h s (List.mem_of_mem_take hs)
theorem rot_len (l : List ByteArray) (k : Nat) : (l.drop k ++ l.take k).length = l.length := by simp; omega

set_option maxRecDepth 100000 in
set_option maxHeartbeats 4000000 in
theorem l03Good_any (g : Nat) (w : World) (hs : Src w g) :
    Calls Tryz.prog 82 #[.pointer (some ⟨g, 0, none⟩)] w fun e w' => DrewA 26 w g e w' ∧ someA e := by
  have hg := hs.lt
  have hx0 := ((Ext.refl w).alloc (.cells #[] 9)).alloc (.cells #[.string ⟨#[97]⟩, .string ⟨#[98]⟩, .string ⟨#[101]⟩, .string ⟨#[102]⟩, .string ⟨#[104]⟩, .string ⟨#[105]⟩, .string ⟨#[107]⟩, .string ⟨#[108]⟩, .string ⟨#[109]⟩, .string ⟨#[110]⟩, .string ⟨#[111]⟩, .string ⟨#[114]⟩, .string ⟨#[115]⟩, .string ⟨#[116]⟩, .string ⟨#[119]⟩, .string ⟨#[121]⟩, .string ⟨#[100]⟩, .string ⟨#[103]⟩, .string ⟨#[99]⟩, .string ⟨#[115, 104]⟩, .string ⟨#[115, 116]⟩, .string ⟨#[99, 104]⟩, .string ⟨#[97, 101]⟩, .string ⟨#[107, 105]⟩, .string ⟨#[102, 111, 114]⟩, .string ⟨#[116, 111, 110]⟩] 9)
  have HS := Lib.hid (And.intro (Drew.of_ext hs hx0) (And.intro ((OwnG.lit layS 9 w (Nat.le_refl _) [] #[] rfl (by simp)).ext ((Ext.refl _).alloc (.cells #[.string ⟨#[97]⟩, .string ⟨#[98]⟩, .string ⟨#[101]⟩, .string ⟨#[102]⟩, .string ⟨#[104]⟩, .string ⟨#[105]⟩, .string ⟨#[107]⟩, .string ⟨#[108]⟩, .string ⟨#[109]⟩, .string ⟨#[110]⟩, .string ⟨#[111]⟩, .string ⟨#[114]⟩, .string ⟨#[115]⟩, .string ⟨#[116]⟩, .string ⟨#[119]⟩, .string ⟨#[121]⟩, .string ⟨#[100]⟩, .string ⟨#[103]⟩, .string ⟨#[99]⟩, .string ⟨#[115, 104]⟩, .string ⟨#[115, 116]⟩, .string ⟨#[99, 104]⟩, .string ⟨#[97, 101]⟩, .string ⟨#[107, 105]⟩, .string ⟨#[102, 111, 114]⟩, .string ⟨#[116, 111, 110]⟩] 9))) (Box.new (w.alloc (.cells #[] 9)) #[.string ⟨#[97]⟩, .string ⟨#[98]⟩, .string ⟨#[101]⟩, .string ⟨#[102]⟩, .string ⟨#[104]⟩, .string ⟨#[105]⟩, .string ⟨#[107]⟩, .string ⟨#[108]⟩, .string ⟨#[109]⟩, .string ⟨#[110]⟩, .string ⟨#[111]⟩, .string ⟨#[114]⟩, .string ⟨#[115]⟩, .string ⟨#[116]⟩, .string ⟨#[119]⟩, .string ⟨#[121]⟩, .string ⟨#[100]⟩, .string ⟨#[103]⟩, .string ⟨#[99]⟩, .string ⟨#[115, 104]⟩, .string ⟨#[115, 116]⟩, .string ⟨#[99, 104]⟩, .string ⟨#[97, 101]⟩, .string ⟨#[107, 105]⟩, .string ⟨#[102, 111, 114]⟩, .string ⟨#[116, 111, 110]⟩] 9)))
  clear hx0 hs
  go_enter Tryz.func82, Tryz.ntmps82
  go_wp2
  rw [World.size_alloc] at HS
  generalize (w.alloc (.cells #[] 9)).alloc (.cells #[.string ⟨#[97]⟩, .string ⟨#[98]⟩, .string ⟨#[101]⟩, .string ⟨#[102]⟩, .string ⟨#[104]⟩, .string ⟨#[105]⟩, .string ⟨#[107]⟩, .string ⟨#[108]⟩, .string ⟨#[109]⟩, .string ⟨#[110]⟩, .string ⟨#[111]⟩, .string ⟨#[114]⟩, .string ⟨#[115]⟩, .string ⟨#[116]⟩, .string ⟨#[119]⟩, .string ⟨#[121]⟩, .string ⟨#[100]⟩, .string ⟨#[103]⟩, .string ⟨#[99]⟩, .string ⟨#[115, 104]⟩, .string ⟨#[115, 116]⟩, .string ⟨#[99, 104]⟩, .string ⟨#[97, 101]⟩, .string ⟨#[107, 105]⟩, .string ⟨#[102, 111, 114]⟩, .string ⟨#[116, 111, 110]⟩] 9) = wb at HS ⊢
  go_loopw [3, 5] (fun v i wr => ∃ (l : List ByteArray) (a1 : Option Addr) (c1 k : Nat), v = .slice a1 l.length c1 ∧ i = .int .i64 k ∧ k ≤ 26 ∧ l.length ≤ k ∧ (∀ s ∈ l, s.size ≤ 17) ∧ (∀ q, (Value.slice a1 l.length c1).ownBlock = some q → q ≠ w.heap.size + 1) ∧ OwnG layS 9 wr w.heap.size a1 l.length c1 l ∧ Box wr (w.heap.size + 1) #[.string ⟨#[97]⟩, .string ⟨#[98]⟩, .string ⟨#[101]⟩, .string ⟨#[102]⟩, .string ⟨#[104]⟩, .string ⟨#[105]⟩, .string ⟨#[107]⟩, .string ⟨#[108]⟩, .string ⟨#[109]⟩, .string ⟨#[110]⟩, .string ⟨#[111]⟩, .string ⟨#[114]⟩, .string ⟨#[115]⟩, .string ⟨#[116]⟩, .string ⟨#[119]⟩, .string ⟨#[121]⟩, .string ⟨#[100]⟩, .string ⟨#[103]⟩, .string ⟨#[99]⟩, .string ⟨#[115, 104]⟩, .string ⟨#[115, 116]⟩, .string ⟨#[99, 104]⟩, .string ⟨#[97, 101]⟩, .string ⟨#[107, 105]⟩, .string ⟨#[102, 111, 114]⟩, .string ⟨#[116, 111, 110]⟩] 9 ∧ Drew w g wr) (fun _ i _ => 26 - (intOf i).toNat)
  case atStart => exact ⟨[], _, _, 0, rfl, rfl, by decide, by simp, by simp, own_ne0 _ _ _, HS.out.2.1, HS.out.2.2, HS.out.1⟩
  case round =>
    obtain ⟨l, a1, c1, k, rfl, rfl, hk, hlk, hl17, hne, ho, hB, hD⟩ := hrel
    have HL := Lib.hid (And.intro hl17 hne)
    have HO := Lib.hid (And.intro ho (And.intro hB hD))
    clear hl17 hne ho hB hD
    by_cases hlt : k < 26
    · have hki : (k : Int) < 26 := by omega
      go_wp2_with fail
      refine (l01Next_any _ _ _ HO.out.2.2.1 (by omega)).mono ?_
      rintro e w2 ⟨x, rfl, hx0, hx1, hd⟩
      have H2 := Lib.hid (And.intro (HO.out.1.drawn hd.grown hg) (And.intro (HO.out.2.1.drew hd.drew (by omega)) (HO.out.2.2.trans hd.drew)))
      clear hd HO hx1
      by_cases hxp : 0 < x
      · obtain ⟨u, hc, hu⟩ := Lits.of_box (n := 26) H2.out.2.1 (by kernel_rfl) rfl k hlt
        have hbx := H2.out.2.1.lt
        go_wp2_with (first | (at_builtin; refine wpList_appSat rfl _ _ 24 rfl Tryz.underlying24 Tryz.info_string w.heap.size _ l.length _ l rfl (H2.out.1.alloc _) ⟨w2.heap.size, 0, none⟩ 1 _ [u] rfl (RdG.new1 layS _ _ _ rfl _) (by omega) (by have := H2.out.2.2.size; simp; omega) ?_; intro a2 c2 w5 hown hgrow hat; have hD5 : Drew w g w5 := (draw_grow H2.out.1.1 H2.out.2.2.1 hg (Nat.le_refl _) H2.out.2.2.2 hgrow); have hbox5 : Box w5 (w.heap.size + 1) #[.string ⟨#[97]⟩, .string ⟨#[98]⟩, .string ⟨#[101]⟩, .string ⟨#[102]⟩, .string ⟨#[104]⟩, .string ⟨#[105]⟩, .string ⟨#[107]⟩, .string ⟨#[108]⟩, .string ⟨#[109]⟩, .string ⟨#[110]⟩, .string ⟨#[111]⟩, .string ⟨#[114]⟩, .string ⟨#[115]⟩, .string ⟨#[116]⟩, .string ⟨#[119]⟩, .string ⟨#[121]⟩, .string ⟨#[100]⟩, .string ⟨#[103]⟩, .string ⟨#[99]⟩, .string ⟨#[115, 104]⟩, .string ⟨#[115, 116]⟩, .string ⟨#[99, 104]⟩, .string ⟨#[97, 101]⟩, .string ⟨#[107, 105]⟩, .string ⟨#[102, 111, 114]⟩, .string ⟨#[116, 111, 110]⟩] 9 := ((H2.out.2.1.ext ((Ext.refl _).alloc _)).grown hgrow (fun e => HL.out.2 _ e rfl)); have hne5 := own_ne1 hat HL.out.2 hbx; have HE := Lib.hid (And.intro hown (And.intro hD5 (And.intro hbox5 hne5))); clear hown hgrow hat hD5 hbox5 hne5))
        go_roundw
        case rel => exact ⟨l ++ [u], a2, c2, k + 1, by simp, by go_num, by omega, by simp; omega, fun s hs => (List.mem_append.1 hs).elim (HL.out.1 s) (fun h => by rw [List.mem_singleton.1 h]; exact hu), by simpa using HE.out.2.2.2, by simpa using HE.out.1, HE.out.2.2.1, HE.out.2.1⟩
        case measure => simp [intOf]; omega
      · go_wp2
        go_roundw
        case rel => exact ⟨l, a1, c1, k + 1, rfl, by go_num, by omega, by omega, HL.out.1, HL.out.2, H2.out.1, H2.out.2.1, H2.out.2.2⟩
        case measure => simp [intOf]; omega
    · obtain rfl : k = 26 := by omega
      have h17 := Lib.hid HL.out.1
      have HH := Lib.hid (And.intro HO.out.1 HO.out.2.2)
      clear HL HO HS
      by_cases h0 : l.length = 0
      · have hl0 : l = [] := List.eq_nil_of_length_eq_zero h0
        subst hl0
        simp only [List.length_nil]
        go_wp2
        go_ret
        exact ⟨⟨_, _, [⟨#[97]⟩], rfl, by decide, by decide, (OwnG.lit layS 9 wr (Nat.le_refl _) [⟨#[97]⟩] #[.string ⟨#[97]⟩] rfl (by simp)).mono HH.out.2.size, HH.out.2.ext ((Ext.refl _).alloc _)⟩, fun a n c e => by cases e; decide⟩
      · obtain ⟨g1, rfl⟩ := own_some HH.out.1 (by omega)
        have hli : ¬ (l.length : Int) = 0 := by omega
        have hle0 : ((l.length : Int) == 0) = false := by simpa using h0
        go_wp2_with fail
        refine (l01Next_any _ _ _ HH.out.2.1 (by omega)).mono ?_
        rintro e wd ⟨x, rfl, hx0, hx1, hd⟩
        obtain ⟨j, rfl, hj⟩ := pick_nat l.length rfl (by omega) hx0 hx1
        have H2 := Lib.hid (And.intro (HH.out.1.drawn hd.grown hg) (HH.out.2.trans hd.drew))
        clear hd hx1 HH
        have hcap : l.length ≤ c1 := by
          rcases H2.out.1.1.2 with ⟨h1, _⟩ | ⟨g', cap, cur, hv, _, _, hcc, _⟩
          · cases h1
          · cases hv; exact hcc
        have hfr := H2.out.1.rd.front (Nat.le_of_lt hj)
        have hbk : RdG layS wd (some ⟨g1, j, none⟩) (l.length - j) (l.drop j) := by have := H2.out.1.rd.tail (Nat.le_of_lt hj); simpa [layS] using this
        have hck2 : ¬ c1 = j := by omega
        have p0 : (0 : Int) ≤ j := by omega
        have p1 : (j : Int) ≤ c1 := by omega
        have p2 : (j : Int) ≤ l.length := by omega
        go_wp2
        go_region_law (first | (refine step_appG layS rfl _ _ 24 9 rfl Tryz.underlying24 (.string ⟨#[]⟩) 16 Tryz.info_string rfl (by decide) wd.heap.size _ (l.length - j) _ (l.drop j) rfl hown _ j _ (l.take j) rfl (hfr.ext hg5) (by omega) hg5.size ?_; intro a6 c6 w6 hown6 hgrow6; have hg6 := hg5.grown hgrow6 (fun k e => (hown.1.lt k e).1)) | (have ho0 := (OwnG.lit layS 9 wd (Nat.le_refl wd.heap.size) [] #[] rfl (by simp)).ext (Ext.refl _).drew; refine step_appG layS rfl _ _ 24 9 rfl Tryz.underlying24 (.string ⟨#[]⟩) 16 Tryz.info_string rfl (by decide) wd.heap.size _ 0 _ [] rfl ho0 _ (l.length - j) _ (l.drop j) rfl (hbk.ext (((Ext.refl wd).alloc (.cells #[] 9)).drew)) (by omega) (by first | omega | (simp only [World.size_alloc, World.size_drew]; omega)) ?_; intro a5 c5 w5 hown hgrow; simp only [Nat.zero_add, List.nil_append] at hown; have hg5 := (((Ext.refl wd).alloc (.cells #[] 9)).drew).grown hgrow (fun k e => (ho0.1.lt k e).1)))
        all_goals
          have HF := Lib.hid (And.intro hown6 hg6)
          clear hown6 hg6
          go_wp2
          go_ret
          refine ⟨⟨a6, c6, l.drop j ++ l.take j, show Ending.returned (.slice a6 (l.length - j + j) c6) = .returned (.slice a6 (l.drop j ++ l.take j).length c6) by rw [rot_len, show l.length - j + j = l.length from by omega], by rw [rot_len]; omega, rot_mem fun s hs => Nat.le_trans (h17.out s hs) (by decide), ?_, H2.out.2.ext HF.out.2⟩, fun a n c e => by cases e; omega⟩
          have := HF.out.1.mono H2.out.2.size
          rw [rot_len]
          rwa [show l.length - j + j = l.length from by omega] at this

end Go.Proofs.YtdicjpkcgeofjaaGreatDoor
