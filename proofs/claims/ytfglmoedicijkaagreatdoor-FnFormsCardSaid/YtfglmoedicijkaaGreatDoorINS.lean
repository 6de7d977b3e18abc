/-
  The reference's insertion into an ordered list of texts.
-/
import Derived.Test.YtfglmoedicijkaaGreatDoorOR
import Derived.Test.YtfglmoedicijkaaGreatDoorR
import Derived.Deep.RegionHeld3
import Derived.Deep.DrawnRows
namespace Go.Proofs.YtfglmoedicijkaaGreatDoor
open Go.RowKit
attribute [local go_sem ↓] Go.wp_at_zero Go.wp_at_succ

theorem own_some {α : Type} {L : Lay α} {e : TypeId} {w : World} {B n c : Nat} {a : Option Addr} {xs : List α} (h : OwnG L e w B a n c xs) (hn : 0 < n) : ∃ g, a = some ⟨g, 0, none⟩ := by
  rcases own_addr h.1 with rfl | h2
  · have := h.rd.isNone
    omega
  · exact h2
theorem Rd.tail {w : World} {b o : Nat} {xs ys : List Value} (h : Rd w (some ⟨b, o, none⟩) (xs ++ ys)) : Rd w (some ⟨b, o + xs.length, none⟩) ys := by
  rcases h with h | ⟨b', o', e, hb, hc⟩
  · exact .inl (List.append_eq_nil_iff.1 h).2
  · cases e
    refine .inr ⟨_, _, rfl, hb, fun j u hu => ?_⟩
    have := hc (xs.length + j) u (by rw [List.getElem?_append_right (by omega), Nat.add_sub_cancel_left]; exact hu)
    rwa [← Nat.add_assoc] at this
theorem RdG.tail {α : Type} {L : Lay α} {w : World} {b o n : Nat} {xs : List α} (h : RdG L w (some ⟨b, o, none⟩) n xs) {k : Nat} (hk : k ≤ n) : RdG L w (some ⟨b, o + k * L.sz, none⟩) (n - k) (xs.drop k) := by
  have hl := h.len
  have h2 := h.2.2
  rw [← List.take_append_drop k xs, List.flatMap_append] at h2
  have h3 := Rd.tail h2
  rw [flat_len, List.length_take, Nat.min_eq_left (by omega)] at h3
  have hle := h.le
  exact ⟨by simp; omega, by omega, h3⟩
theorem RdG.front {α : Type} {L : Lay α} {w : World} {a : Option Addr} {n : Nat} {xs : List α} (h : RdG L w a n xs) {k : Nat} (hk : k ≤ n) : RdG L w a k (xs.take k) := by
  have hl := h.len
  have h2 := h.2.2
  rw [← List.take_append_drop k xs, List.flatMap_append] at h2
  exact ⟨by simp; omega, Nat.le_trans hk h.le, Rd.front h2⟩
theorem insS_at {xs : List ByteArray} {s : ByteArray} {k : Nat} (hk : k ≤ xs.length) (h1 : ∀ j, j < k → ltS (nthS xs j) s = true) (h2 : k < xs.length → ltS (nthS xs k) s = false) :
    insS xs s = if k < xs.length ∧ nthS xs k = s then xs else xs.take k ++ s :: xs.drop k := by
  rw [insS, insR_at k hk (fun j x hj hx => ?_) (fun x hx => ?_)]
  · by_cases hlt : k < xs.length
    · rw [List.getElem?_eq_getElem hlt, nthS_eq hlt]
      by_cases e : xs[k] = s
      · rw [if_pos (by rw [e]), if_pos ⟨hlt, e⟩]
      · rw [if_neg (by simpa using e), if_neg (fun h => e h.2)]
    · rw [List.getElem?_eq_none (by omega), if_neg (by simp), if_neg (fun h => hlt h.1)]
  · have hj2 := (List.getElem?_eq_some_iff.1 hx).1
    have := h1 j hj
    rw [nthS_eq hj2] at this
    rw [← (List.getElem?_eq_some_iff.1 hx).2]; exact this
  · have hk2 := (List.getElem?_eq_some_iff.1 hx).1
    have := h2 hk2
    rw [nthS_eq hk2] at this
    rw [← (List.getElem?_eq_some_iff.1 hx).2]; exact this

set_option maxRecDepth 100000 in
set_option maxHeartbeats 1000000 in
theorem l08Insert_any (g n c B : Nat) (xs : List ByteArray) (s : ByteArray) (w : World) (ho : OwnS w B (some ⟨g, 0, none⟩) n c xs) (hB : B ≤ w.heap.size) (hs : s.size ≤ 1073741824) (hn : n ≤ 1048577) :
    Calls Tryz.prog 62 #[.slice (some ⟨g, 0, none⟩) n c, .string s] w fun e w' => ∃ g' m c', e = .returned (.slice (some ⟨g', 0, none⟩) m c') ∧ m ≤ n + 1 ∧ OwnS w' B (some ⟨g', 0, none⟩) m c' (insS xs s) ∧ Ext w w' := by
  have hcap := ho.cap
  have hr := ho.rd
  go_enter Tryz.func62, Tryz.ntmps62
  go_wp2
  go_loopw [5] (fun i wr => ∃ k : Nat, k ≤ n ∧ i = .int .i64 k ∧ (∀ j, j < k → ltS (nthS xs j) s = true) ∧ wr = w) (fun i _ => n - (intOf i).toNat)
  case atStart => exact ⟨0, Nat.zero_le _, rfl, by simp, rfl⟩
  case round =>
    obtain ⟨k, hk, rfl, hall, rfl⟩ := hrel
    have HA := Lib.hid hall
    clear hall
    by_cases hlt : k < n
    · obtain ⟨b, o, hbo, hbl, hc⟩ := hr.at (by omega)
      cases hbo
      have hck := hc k hlt
      simp only [Nat.zero_add] at hck
      clear hc
      have hki : (k : Int) < n := by omega
      cases hl : ltS (nthS xs k) s
      · have hat := insS_at (xs := xs) (s := s) (k := k) (by rw [hr.len]; exact hk) HA.out (fun _ => hl)
        have hle : Op.bytesLess (nthS xs k).toList s.toList = false := (ltS_less _ _).trans hl
        clear hl
        by_cases he : nthS xs k = s
        · rw [if_pos ⟨by rw [hr.len]; exact hlt, he⟩] at hat
          have heq := beqS_eq he
          have HT := Lib.hid hat
          clear hat he
          go_wp2
          go_ret
          exact ⟨_, _, _, rfl, by omega, by rw [HT.out]; exact ho, Ext.refl _⟩
        · rw [if_neg (fun h => he h.2)] at hat
          have heq := beqS_ne he
          have HT := Lib.hid hat
          clear hat he
          have hfr := hr.1.front hk
          have hbk : RdG layS wr (some ⟨g, k, none⟩) (n - k) (xs.drop k) := by have := hr.1.tail hk; simpa [layS] using this
          have hck2 : ¬ c = k := by omega
          have p0 : (0 : Int) ≤ k := by omega
          have p1 : (k : Int) ≤ c := by omega
          have p2 : (k : Int) ≤ n := by omega
          go_wp2
          go_region_law (first | (refine step_appG layS rfl _ _ 29 9 rfl Tryz.underlying29 (.string ⟨#[]⟩) 16 Tryz.info_string rfl (by decide) wr.heap.size _ (k + 1) _ (xs.take k ++ [s]) rfl hown4 _ (n - k) _ (xs.drop k) rfl (hbk.ext hg4) (by omega) hg4.size ?_; intro a5 c5 w5 hown5 hgrow5; have hg5 := hg4.grown hgrow5 (fun k e => (hown4.1.lt k e).1)) | (refine step_appG layS rfl _ _ 29 9 rfl Tryz.underlying29 (.string ⟨#[]⟩) 16 Tryz.info_string rfl (by decide) wr.heap.size _ k _ (xs.take k) rfl (hown.ext ((Ext.refl _).alloc _)) _ 1 1 [s] rfl (RdG.new1 layS _ _ _ rfl _) (by omega) (by have := hg.size; simp only [World.size_alloc]; omega) ?_; intro a4 c4 w4 hown4 hgrow4; have hg4 := (hg.alloc (.cells #[.string s] 9)).grown hgrow4 (fun k e => (hown.1.lt k e).1)) | (refine step_appG layS rfl _ _ 29 9 rfl Tryz.underlying29 (.string ⟨#[]⟩) 16 Tryz.info_string rfl (by decide) wr.heap.size _ k _ (xs.take k) rfl hown _ 1 1 [s] rfl hlit (by omega) hg.size ?_; intro a4 c4 w4 hown4 hgrow4; have hg4 := hg.grown hgrow4 (fun k e => (hown.1.lt k e).1)) | (have ho0 := (OwnG.lit layS 9 wr (Nat.le_refl wr.heap.size) [] #[] rfl (by simp)).ext (Ext.refl _).drew; refine step_appG layS rfl _ _ 29 9 rfl Tryz.underlying29 (.string ⟨#[]⟩) 16 Tryz.info_string rfl (by decide) wr.heap.size _ 0 _ [] rfl ho0 _ k c (xs.take k) rfl (hfr.ext (((Ext.refl _).alloc (.cells #[] 9)).drew)) (by omega) (by first | omega | (simp only [World.size_alloc, World.size_drew]; omega)) ?_; intro a3 c3 w3 hown hgrow; simp only [Nat.zero_add, List.nil_append] at hown; have hg := (((Ext.refl wr).alloc (.cells #[] 9)).drew).grown hgrow (fun k e => (ho0.1.lt k e).1)) | (have ho0 := ((OwnG.lit layS 9 wr (Nat.le_refl wr.heap.size) [] #[] rfl (by simp)).ext ((Ext.refl _).alloc (.cells #[.string s] 9))).ext (Ext.refl _).drew; have hl0 := RdG.new1 layS (wr.alloc (.cells #[] 9)) s #[.string s] rfl 9; rw [World.size_alloc] at hl0; refine step_appG layS rfl _ _ 29 9 rfl Tryz.underlying29 (.string ⟨#[]⟩) 16 Tryz.info_string rfl (by decide) wr.heap.size _ 0 _ [] rfl ho0 _ k c (xs.take k) rfl (hfr.ext ((((Ext.refl _).alloc (.cells #[] 9)).alloc (.cells #[.string s] 9)).drew)) (by omega) (by first | omega | (simp only [World.size_alloc, World.size_drew]; omega)) ?_; intro a3 c3 w3 hown hgrow; simp only [Nat.zero_add, List.nil_append] at hown; have hg := ((((Ext.refl wr).alloc (.cells #[] 9)).alloc (.cells #[.string s] 9)).drew).grown hgrow (fun k e => (ho0.1.lt k e).1); have hlit := RdG.grown (hl0.ext (Ext.refl _).drew) hgrow (by simp [Value.ownBlock])) | (have ho1 := OwnG.lit layS 9 (wr.alloc (.cells #[.string s] 9)) (show wr.heap.size ≤ _ by rw [World.size_alloc]; omega) [] #[] rfl (by simp); rw [World.size_alloc] at ho1; have ho0 := ho1.ext (Ext.refl _).drew; have hl0 := RdG.new1 layS wr s #[.string s] rfl 9; refine step_appG layS rfl _ _ 29 9 rfl Tryz.underlying29 (.string ⟨#[]⟩) 16 Tryz.info_string rfl (by decide) wr.heap.size _ 0 _ [] rfl ho0 _ k c (xs.take k) rfl (hfr.ext ((((Ext.refl _).alloc (.cells #[.string s] 9)).alloc (.cells #[] 9)).drew)) (by omega) (by first | omega | (simp only [World.size_alloc, World.size_drew]; omega)) ?_; intro a3 c3 w3 hown hgrow; simp only [Nat.zero_add, List.nil_append] at hown; have hg := ((((Ext.refl wr).alloc (.cells #[.string s] 9)).alloc (.cells #[] 9)).drew).grown hgrow (fun k e => (ho0.1.lt k e).1); have hlit := RdG.grown ((hl0.ext ((Ext.refl _).alloc (.cells #[] 9))).ext (Ext.refl _).drew) hgrow (by simp [Value.ownBlock])))
          all_goals
            obtain ⟨g5, rfl⟩ := own_some hown5 (by omega)
            have HO := Lib.hid (And.intro hown5 hg5)
            clear hown5 hg5
            go_wp2
            go_ret
            have hok : ∀ x ∈ xs.take k ++ s :: xs.drop k, x.size ≤ 1073741824 := fun x hx => by
              rcases List.mem_append.1 hx with hx | hx
              · exact ho.2 x (List.mem_of_mem_take hx)
              · rcases List.mem_cons.1 hx with rfl | hx
                · exact hs
                · exact ho.2 x (List.mem_of_mem_drop hx)
            refine ⟨g5, k + 1 + (n - k), c5, rfl, by omega, ?_, HO.out.2⟩
            rw [HT.out]
            refine ⟨?_, hok⟩
            have := HO.out.1.mono hB
            simpa using this
      · have hle : Op.bytesLess (nthS xs k).toList s.toList = true := (ltS_less _ _).trans hl
        have HL := Lib.hid hl
        clear hl
        go_wp2
        go_roundw
        case rel =>
          refine ⟨k + 1, by omega, by go_num, fun j hj => ?_, trivial⟩
          by_cases e : j = k
          · rw [e]; exact HL.out
          · exact HA.out j (by omega)
        case measure => simp [intOf]; omega
    · have hat := insS_at (xs := xs) (s := s) (k := k) (by rw [hr.len]; exact hk) HA.out (fun h => by rw [hr.len] at h; omega)
      rw [if_neg (fun h => by have := h.1; rw [hr.len] at this; omega)] at hat
      have HT := Lib.hid hat
      clear hat
      have hnk : k = n := by omega
      by_cases hck2 : c = k
      · subst hck2
        have hbk : RdG layS wr (some ⟨g, 0, none⟩) 0 (xs.drop c) := by
          rw [List.drop_eq_nil_of_le (by rw [hr.len]; omega)]; exact RdG.nil _ _ _
        obtain rfl : n = c := by omega
        have hfr := hr.1.front hk
        have p0 : (0 : Int) ≤ n := by omega
        clear hnk
        go_wp2
        go_region_law (first | (refine step_appG layS rfl _ _ 29 9 rfl Tryz.underlying29 (.string ⟨#[]⟩) 16 Tryz.info_string rfl (by decide) wr.heap.size _ (n + 1) _ (xs.take n ++ [s]) rfl hown4 _ 0 _ (xs.drop n) rfl (hbk.ext hg4) (by omega) hg4.size ?_; intro a5 c5 w5 hown5 hgrow5; have hg5 := hg4.grown hgrow5 (fun k e => (hown4.1.lt k e).1)) | (refine step_appG layS rfl _ _ 29 9 rfl Tryz.underlying29 (.string ⟨#[]⟩) 16 Tryz.info_string rfl (by decide) wr.heap.size _ n _ (xs.take n) rfl (hown.ext ((Ext.refl _).alloc _)) _ 1 1 [s] rfl (RdG.new1 layS _ _ _ rfl _) (by omega) (by have := hg.size; simp only [World.size_alloc]; omega) ?_; intro a4 c4 w4 hown4 hgrow4; have hg4 := (hg.alloc (.cells #[.string s] 9)).grown hgrow4 (fun k e => (hown.1.lt k e).1)) | (refine step_appG layS rfl _ _ 29 9 rfl Tryz.underlying29 (.string ⟨#[]⟩) 16 Tryz.info_string rfl (by decide) wr.heap.size _ n _ (xs.take n) rfl hown _ 1 1 [s] rfl hlit (by omega) hg.size ?_; intro a4 c4 w4 hown4 hgrow4; have hg4 := hg.grown hgrow4 (fun k e => (hown.1.lt k e).1)) | (have ho0 := (OwnG.lit layS 9 wr (Nat.le_refl wr.heap.size) [] #[] rfl (by simp)).ext (Ext.refl _).drew; refine step_appG layS rfl _ _ 29 9 rfl Tryz.underlying29 (.string ⟨#[]⟩) 16 Tryz.info_string rfl (by decide) wr.heap.size _ 0 _ [] rfl ho0 _ n n (xs.take n) rfl (hfr.ext (((Ext.refl _).alloc (.cells #[] 9)).drew)) (by omega) (by first | omega | (simp only [World.size_alloc, World.size_drew]; omega)) ?_; intro a3 c3 w3 hown hgrow; simp only [Nat.zero_add, List.nil_append] at hown; have hg := (((Ext.refl wr).alloc (.cells #[] 9)).drew).grown hgrow (fun k e => (ho0.1.lt k e).1)) | (have ho0 := ((OwnG.lit layS 9 wr (Nat.le_refl wr.heap.size) [] #[] rfl (by simp)).ext ((Ext.refl _).alloc (.cells #[.string s] 9))).ext (Ext.refl _).drew; have hl0 := RdG.new1 layS (wr.alloc (.cells #[] 9)) s #[.string s] rfl 9; rw [World.size_alloc] at hl0; refine step_appG layS rfl _ _ 29 9 rfl Tryz.underlying29 (.string ⟨#[]⟩) 16 Tryz.info_string rfl (by decide) wr.heap.size _ 0 _ [] rfl ho0 _ n n (xs.take n) rfl (hfr.ext ((((Ext.refl _).alloc (.cells #[] 9)).alloc (.cells #[.string s] 9)).drew)) (by omega) (by first | omega | (simp only [World.size_alloc, World.size_drew]; omega)) ?_; intro a3 c3 w3 hown hgrow; simp only [Nat.zero_add, List.nil_append] at hown; have hg := ((((Ext.refl wr).alloc (.cells #[] 9)).alloc (.cells #[.string s] 9)).drew).grown hgrow (fun k e => (ho0.1.lt k e).1); have hlit := RdG.grown (hl0.ext (Ext.refl _).drew) hgrow (by simp [Value.ownBlock])) | (have ho1 := OwnG.lit layS 9 (wr.alloc (.cells #[.string s] 9)) (show wr.heap.size ≤ _ by rw [World.size_alloc]; omega) [] #[] rfl (by simp); rw [World.size_alloc] at ho1; have ho0 := ho1.ext (Ext.refl _).drew; have hl0 := RdG.new1 layS wr s #[.string s] rfl 9; refine step_appG layS rfl _ _ 29 9 rfl Tryz.underlying29 (.string ⟨#[]⟩) 16 Tryz.info_string rfl (by decide) wr.heap.size _ 0 _ [] rfl ho0 _ n n (xs.take n) rfl (hfr.ext ((((Ext.refl _).alloc (.cells #[.string s] 9)).alloc (.cells #[] 9)).drew)) (by omega) (by first | omega | (simp only [World.size_alloc, World.size_drew]; omega)) ?_; intro a3 c3 w3 hown hgrow; simp only [Nat.zero_add, List.nil_append] at hown; have hg := ((((Ext.refl wr).alloc (.cells #[.string s] 9)).alloc (.cells #[] 9)).drew).grown hgrow (fun k e => (ho0.1.lt k e).1); have hlit := RdG.grown ((hl0.ext ((Ext.refl _).alloc (.cells #[] 9))).ext (Ext.refl _).drew) hgrow (by simp [Value.ownBlock])))
        all_goals
          obtain ⟨g5, rfl⟩ := own_some hown5 (by omega)
          have HO := Lib.hid (And.intro hown5 hg5)
          clear hown5 hg5
          go_wp2
          go_ret
          have hok : ∀ x ∈ xs.take n ++ s :: xs.drop n, x.size ≤ 1073741824 := fun x hx => by
            rcases List.mem_append.1 hx with hx | hx
            · exact ho.2 x (List.mem_of_mem_take hx)
            · rcases List.mem_cons.1 hx with rfl | hx
              · exact hs
              · exact ho.2 x (List.mem_of_mem_drop hx)
          refine ⟨g5, n + 1 + 0, c5, rfl, by omega, ?_, HO.out.2⟩
          rw [HT.out]
          refine ⟨?_, hok⟩
          have := HO.out.1.mono hB
          simpa using this
      · have hfr := hr.1.front hk
        have hbk : RdG layS wr (some ⟨g, k, none⟩) (n - k) (xs.drop k) := by have := hr.1.tail hk; simpa [layS] using this
        have p0 : (0 : Int) ≤ k := by omega
        have p1 : (k : Int) ≤ c := by omega
        have p2 : (k : Int) ≤ n := by omega
        subst hnk
        rw [Nat.sub_self] at hbk
        go_wp2
        go_region_law (first | (refine step_appG layS rfl _ _ 29 9 rfl Tryz.underlying29 (.string ⟨#[]⟩) 16 Tryz.info_string rfl (by decide) wr.heap.size _ (k + 1) _ (xs.take k ++ [s]) rfl hown4 _ 0 _ (xs.drop k) rfl (hbk.ext hg4) (by omega) hg4.size ?_; intro a5 c5 w5 hown5 hgrow5; have hg5 := hg4.grown hgrow5 (fun k e => (hown4.1.lt k e).1)) | (refine step_appG layS rfl _ _ 29 9 rfl Tryz.underlying29 (.string ⟨#[]⟩) 16 Tryz.info_string rfl (by decide) wr.heap.size _ k _ (xs.take k) rfl (hown.ext ((Ext.refl _).alloc _)) _ 1 1 [s] rfl (RdG.new1 layS _ _ _ rfl _) (by omega) (by have := hg.size; simp only [World.size_alloc]; omega) ?_; intro a4 c4 w4 hown4 hgrow4; have hg4 := (hg.alloc (.cells #[.string s] 9)).grown hgrow4 (fun k e => (hown.1.lt k e).1)) | (refine step_appG layS rfl _ _ 29 9 rfl Tryz.underlying29 (.string ⟨#[]⟩) 16 Tryz.info_string rfl (by decide) wr.heap.size _ k _ (xs.take k) rfl hown _ 1 1 [s] rfl hlit (by omega) hg.size ?_; intro a4 c4 w4 hown4 hgrow4; have hg4 := hg.grown hgrow4 (fun k e => (hown.1.lt k e).1)) | (have ho0 := (OwnG.lit layS 9 wr (Nat.le_refl wr.heap.size) [] #[] rfl (by simp)).ext (Ext.refl _).drew; refine step_appG layS rfl _ _ 29 9 rfl Tryz.underlying29 (.string ⟨#[]⟩) 16 Tryz.info_string rfl (by decide) wr.heap.size _ 0 _ [] rfl ho0 _ k c (xs.take k) rfl (hfr.ext (((Ext.refl _).alloc (.cells #[] 9)).drew)) (by omega) (by first | omega | (simp only [World.size_alloc, World.size_drew]; omega)) ?_; intro a3 c3 w3 hown hgrow; simp only [Nat.zero_add, List.nil_append] at hown; have hg := (((Ext.refl wr).alloc (.cells #[] 9)).drew).grown hgrow (fun k e => (ho0.1.lt k e).1)) | (have ho0 := ((OwnG.lit layS 9 wr (Nat.le_refl wr.heap.size) [] #[] rfl (by simp)).ext ((Ext.refl _).alloc (.cells #[.string s] 9))).ext (Ext.refl _).drew; have hl0 := RdG.new1 layS (wr.alloc (.cells #[] 9)) s #[.string s] rfl 9; rw [World.size_alloc] at hl0; refine step_appG layS rfl _ _ 29 9 rfl Tryz.underlying29 (.string ⟨#[]⟩) 16 Tryz.info_string rfl (by decide) wr.heap.size _ 0 _ [] rfl ho0 _ k c (xs.take k) rfl (hfr.ext ((((Ext.refl _).alloc (.cells #[] 9)).alloc (.cells #[.string s] 9)).drew)) (by omega) (by first | omega | (simp only [World.size_alloc, World.size_drew]; omega)) ?_; intro a3 c3 w3 hown hgrow; simp only [Nat.zero_add, List.nil_append] at hown; have hg := ((((Ext.refl wr).alloc (.cells #[] 9)).alloc (.cells #[.string s] 9)).drew).grown hgrow (fun k e => (ho0.1.lt k e).1); have hlit := RdG.grown (hl0.ext (Ext.refl _).drew) hgrow (by simp [Value.ownBlock])) | (have ho1 := OwnG.lit layS 9 (wr.alloc (.cells #[.string s] 9)) (show wr.heap.size ≤ _ by rw [World.size_alloc]; omega) [] #[] rfl (by simp); rw [World.size_alloc] at ho1; have ho0 := ho1.ext (Ext.refl _).drew; have hl0 := RdG.new1 layS wr s #[.string s] rfl 9; refine step_appG layS rfl _ _ 29 9 rfl Tryz.underlying29 (.string ⟨#[]⟩) 16 Tryz.info_string rfl (by decide) wr.heap.size _ 0 _ [] rfl ho0 _ k c (xs.take k) rfl (hfr.ext ((((Ext.refl _).alloc (.cells #[.string s] 9)).alloc (.cells #[] 9)).drew)) (by omega) (by first | omega | (simp only [World.size_alloc, World.size_drew]; omega)) ?_; intro a3 c3 w3 hown hgrow; simp only [Nat.zero_add, List.nil_append] at hown; have hg := ((((Ext.refl wr).alloc (.cells #[.string s] 9)).alloc (.cells #[] 9)).drew).grown hgrow (fun k e => (ho0.1.lt k e).1); have hlit := RdG.grown ((hl0.ext ((Ext.refl _).alloc (.cells #[] 9))).ext (Ext.refl _).drew) hgrow (by simp [Value.ownBlock])))
        all_goals
          obtain ⟨g5, rfl⟩ := own_some hown5 (by omega)
          have HO := Lib.hid (And.intro hown5 hg5)
          clear hown5 hg5
          go_wp2
          go_ret
          have hok : ∀ x ∈ xs.take k ++ s :: xs.drop k, x.size ≤ 1073741824 := fun x hx => by
            rcases List.mem_append.1 hx with hx | hx
            · exact ho.2 x (List.mem_of_mem_take hx)
            · rcases List.mem_cons.1 hx with rfl | hx
              · exact hs
              · exact ho.2 x (List.mem_of_mem_drop hx)
          refine ⟨g5, k + 1 + 0, c5, rfl, by omega, ?_, HO.out.2⟩
          rw [HT.out]
          refine ⟨?_, hok⟩
          have := HO.out.1.mono hB
          simpa using this

end Go.Proofs.YtfglmoedicijkaaGreatDoor
