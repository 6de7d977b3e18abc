/-
  PhraseSound on both sides.
-/
import Derived.Test.YtfglmoedicijkaaGreatDoorSO2
import Derived.Test.YtfglmoedicijkaaGreatDoorTA
namespace Go.Proofs.YtfglmoedicijkaaGreatDoor
open Go.RowKit

def psL (t : List Int) (s : ByteArray) : List ByteArray := (splitC 32 s).map (soundT t)
def psB (t : List Int) (s : ByteArray) : Bool := soundB t && phraseB s
def psV (t : List Int) (s : ByteArray) : ByteArray := if psB t s = true then joinS (psL t s) else ⟨#[]⟩
def psC (t : List Int) (s : ByteArray) : Int := if psB t s = true then 0 else 1
theorem ps_bad {t : List Int} {s : ByteArray} (h : soundB t = false ∨ phraseB s = false) : psV t s = ⟨#[]⟩ ∧ psC t s = 1 := by
  have : psB t s = false := by rw [psB]; rcases h with h | h <;> simp [h]
  rw [psV, psC, this]
  exact ⟨if_neg (by decide), if_neg (by decide)⟩
theorem ps_good {t : List Int} {s : ByteArray} (h : soundB t = true) (h1 : phraseB s = true) : psV t s = joinS (psL t s) ∧ psC t s = 0 := by
  have : psB t s = true := by rw [psB, h, h1]; rfl
  rw [psV, psC, this]
  exact ⟨if_pos rfl, if_pos rfl⟩
theorem phrase_parts {s : ByteArray} (h : phraseB s = true) : (splitC 32 s).length ≤ 8 ∧ wordsB (splitC 32 s) = true := by
  rw [phraseB, Bool.and_eq_true] at h
  exact ⟨of_decide_eq_true h.1, h.2⟩
/-- The first k turned. -/
def turned (f : ByteArray → ByteArray) (ss : List ByteArray) (k : Nat) : List ByteArray := (ss.take k).map f ++ ss.drop k
theorem turned_len (f : ByteArray → ByteArray) (ss : List ByteArray) (k : Nat) : (turned f ss k).length = ss.length := by simp [turned]; omega
theorem turned_get {f : ByteArray → ByteArray} {ss : List ByteArray} {k : Nat} (h : k < ss.length) : nthS (turned f ss k) k = nthS ss k := by
  rw [nthS_eq (by rw [turned_len]; exact h), nthS_eq h]
  simp only [turned]
  rw [List.getElem_append_right (by simp; omega)]
  simp [Nat.min_eq_left (Nat.le_of_lt h)]
theorem turned_set (f : ByteArray → ByteArray) (ss : List ByteArray) (k : Nat) (h : k < ss.length) :
    ((turned f ss k).flatMap layS.cells).set k (.string (f (nthS ss k))) = (turned f ss (k + 1)).flatMap layS.cells := by
  rw [turned, List.drop_eq_getElem_cons h, List.flatMap_append, List.flatMap_cons]
  have hl : (((ss.take k).map f).flatMap layS.cells).length = k := by rw [flat_len]; simp [layS]; omega
  rw [List.set_append_right _ _ (by omega), hl, Nat.sub_self]
  have e : turned f ss (k + 1) = (ss.take k).map f ++ (f ss[k] :: ss.drop (k + 1)) := by
    rw [turned, List.take_succ_eq_append_getElem h, List.map_append, List.append_assoc]; rfl
  rw [e, List.flatMap_append, List.flatMap_cons, nthS_eq h]
  rfl
theorem turned_all (f : ByteArray → ByteArray) (ss : List ByteArray) : turned f ss ss.length = ss.map f := by simp [turned]
theorem tot_four {t : List Int} : ∀ {ss : List ByteArray}, wordsB ss = true → tot (ss.map (soundT t)) = 4 * ss.length
  | [], _ => rfl
  | x :: xs, h => by
    rw [wordsB, List.all_cons, Bool.and_eq_true] at h
    have ih := tot_four (t := t) (ss := xs) h.2
    have hx := soundT_size (t := t) (s := x) (by have := (wordB_size h.1).1; omega)
    simp only [tot, List.map_cons, List.sum_cons, List.length_cons] at ih ⊢
    omega
theorem sounds_small {t : List Int} {ss : List ByteArray} (h : wordsB ss = true) : ∀ x ∈ ss.map (soundT t), x.size ≤ 1073741824 := fun x hx => by
  have := tot_le hx
  obtain ⟨y, hy, rfl⟩ := List.mem_map.1 hx
  obtain ⟨k, hk, rfl⟩ := List.getElem_of_mem hy
  have hw := wordsB_at h hk
  rw [nthS_eq hk] at hw
  rw [soundT_size (by have := (wordB_size hw).1; omega)]
  omega

set_option maxRecDepth 100000 in
set_option maxHeartbeats 1000000 in
theorem phraseSound_any (a : Option Addr) (n c : Nat) (s : ByteArray) (t : List Int) (w : World) (hr : RdI w a n t) (hz : soundB t = true) (hp : phraseB s = true) (hs : s.size ≤ 1073741824) (hmax : MaxW w) :
    Calls Tryz.prog 52 #[.slice a n c, .string s] w fun e w' => e = .returned (.string (joinS (psL t s))) ∧ Ext w w' := by
  obtain ⟨hn8, hwords⟩ := phrase_parts hp
  have htot := tot_four (t := t) hwords
  have HW := Lib.hid (And.intro hz (And.intro hwords (sounds_small (t := t) hwords)))
  clear hz hp hwords
  go_enter Tryz.func52, Tryz.ntmps52
  go_wp2_with fail
  refine (wordsOf_any _ _ hs hmax).mono ?_
  rintro e w1 ⟨v, rfl, a1, n1, c1, rfl, o1, x1⟩
  have hln := o1.rd.len
  have hm := o1.rd.le
  have hcap := o1.cap
  have ho0 : OwnG layS 9 w1 w.heap.size a1 n1 c1 (turned (soundT t) (splitC 32 s) 0) := by simpa [turned] using o1.1
  clear o1
  go_wp2
  go_loopw [12] (fun i wr => ∃ k : Nat, k ≤ n1 ∧ i = .int .i64 k ∧ OwnG layS 9 wr w.heap.size a1 n1 c1 (turned (soundT t) (splitC 32 s) k) ∧ Ext w wr) (fun i _ => n1 - (intOf i).toNat)
  case atStart => exact ⟨0, Nat.zero_le _, rfl, ho0, x1⟩
  case round =>
    obtain ⟨k, hk, rfl, ho, hx⟩ := hrel
    by_cases hlt : k < n1
    · obtain ⟨g, rfl⟩ : ∃ g, a1 = some ⟨g, 0, none⟩ := by
        rcases own_addr ho.1 with rfl | h
        · have := ho.rd.isNone.1; omega
        · exact h
      have hcell : wr.cell? ⟨g, k, none⟩ = some (.string (nthS (splitC 32 s) k)) := by
        obtain ⟨b, o, he, _, hc⟩ := ho.rd.at (by omega)
        cases he
        have := hc k _ (List.getElem?_eq_getElem (by rw [turned_len]; omega)) 0 _ rfl
        rw [← nthS_eq (by rw [turned_len]; omega), turned_get (by omega)] at this
        simpa [layS] using this
      have hki : (k : Int) < n1 := by omega
      go_wp2_with fail
      refine (soundOf_any _ _ _ _ _ _ (hr.ext hx) HW.out.1 (wordsB_at HW.out.2.1 (by omega))).mono ?_
      rintro e w2 ⟨rfl, e2⟩
      have ho1 := ho.ext e2
      obtain ⟨u0, hu⟩ := own_old ho1.1 k hlt
      have hf := ho1.1.frozenAt k
      have hs1 := (ho1.1.stored k (.string (soundT t (nthS (splitC 32 s) k)))).1
      rw [turned_set _ _ k (by omega)] at hs1
      have hxx := (hx.trans e2).setCell (p := ⟨g, k, none⟩) (by have := (ho.1.lt g rfl).1; exact this) (.string (soundT t (nthS (splitC 32 s) k)))
      have HS := Lib.hid (And.intro (show OwnG layS 9 _ _ _ _ _ _ from ⟨hs1, hm⟩) hxx)
      clear hs1 ho ho1 hxx
      go_wp2
      go_roundw
      case rel => exact ⟨k + 1, by omega, by go_num, by simpa using HS.out.1, by simpa using HS.out.2⟩
      case measure => simp [intOf]; omega
    · obtain rfl : k = n1 := by omega
      have hall : turned (soundT t) (splitC 32 s) k = psL t s := by rw [← hln, turned_all]; rfl
      rw [hall] at ho
      have hrd : RdS wr a1 k (psL t s) := ⟨ho.rd, HW.out.2.2⟩
      have htt : tot (psL t s) + k ≤ 1073741824 := by have : tot (psL t s) = 4 * (splitC 32 s).length := htot; omega
      clear ho
      go_wp2_with fail
      refine (join_any _ _ _ _ _ hrd hcap htt).mono ?_
      rintro e w3 ⟨rfl, e3⟩
      go_wp2
      go_ret
      exact ⟨rfl, hx.trans e3⟩

set_option maxRecDepth 100000 in
set_option maxHeartbeats 1000000 in
theorem specPhraseSound_any (a : Option Addr) (n c : Nat) (s : ByteArray) (t : List Int) (w : World) (hr : RdI w a n t) (hs : s.size ≤ 1073741824) :
    Calls Tryz.prog 16 #[.slice a n c, .string s] w (RetSC w (psV t s) (psC t s)) := by
  cases h0 : soundB t
  · have HZ := Lib.hid (And.intro h0 (ps_bad (s := s) (.inl h0)))
    clear h0
    go_enter Tryz.func16, Tryz.ntmps16
    go_wp2_with fail
    refine (l01Phrase_any _ _ hs).mono ?_
    rintro e w1 ⟨v, rfl, a1, n1, c1, rfl, o1, x1⟩
    go_wp2_with (first | (go_at_call 23; refine (specIsSoundTable_any _ _ _ _ _ (hr.ext x1)).mono ?_; rintro e w' ⟨rfl, rfl⟩; rw [HZ.out.1]))
    go_ret2
    exact ⟨by rw [HZ.out.2.1, HZ.out.2.2]; rfl, x1⟩
  cases h1 : phraseB s
  · have HZ := Lib.hid (And.intro (And.intro h0 h1) (ps_bad (t := t) (.inr h1)))
    clear h0 h1
    go_enter Tryz.func16, Tryz.ntmps16
    go_wp2_with fail
    refine (l01Phrase_any _ _ hs).mono ?_
    rintro e w1 ⟨v, rfl, a1, n1, c1, rfl, o1, x1⟩
    rw [HZ.out.1.2]
    go_wp2_with (first | (go_at_call 23; refine (specIsSoundTable_any _ _ _ _ _ (hr.ext x1)).mono ?_; rintro e w' ⟨rfl, rfl⟩; rw [HZ.out.1.1]))
    go_ret2
    exact ⟨by rw [HZ.out.2.1, HZ.out.2.2]; rfl, x1⟩
  · obtain ⟨hn8, hwords⟩ := phrase_parts h1
    have htot := tot_four (t := t) hwords
    have HZ := Lib.hid (And.intro (And.intro h0 h1) (ps_good h0 h1))
    have HW := Lib.hid (And.intro hwords (And.intro (sounds_small (t := t) hwords) (phraseT_good hwords)))
    clear h0 h1 hwords
    go_enter Tryz.func16, Tryz.ntmps16
    go_wp2_with fail
    refine (l01Phrase_any _ _ hs).mono ?_
    rintro e w1 ⟨v, rfl, a1, n1, c1, rfl, o1, x1⟩
    rw [HZ.out.1.2]
    rw [HW.out.2.2] at o1
    have hln := o1.rd.len
    have hm := o1.rd.le
    go_wp2_with (first | (go_at_call 23; refine (specIsSoundTable_any _ _ _ _ _ (hr.ext x1)).mono ?_; rintro e w' ⟨rfl, rfl⟩; rw [HZ.out.1.1]))
    go_loopw [8, 9] (fun u i wr => ∃ (k : Nat) (l : List ByteArray) (a2 : Option Addr) (c2 : Nat), k ≤ n1 ∧ i = .int .i64 k ∧ u = .slice a2 l.length c2 ∧ l = ((splitC 32 s).take k).map (soundT t) ∧ OwnG layS 9 wr w1.heap.size a2 l.length c2 l ∧ Ext w1 wr) (fun _ i _ => n1 - (intOf i).toNat)
    case atStart => exact ⟨0, [], _, _, Nat.zero_le _, rfl, rfl, by simp, OwnG.lit layS 9 w1 (Nat.le_refl _) [] #[] rfl (by simp), (Ext.refl _).alloc _⟩
    case round =>
      obtain ⟨k, l, a2, c2, hk, rfl, rfl, hl, ho, hx⟩ := hrel
      have hll : l.length ≤ k := by
        rw [hl]
        simp only [List.length_map, List.length_take]
        omega
      have HL := Lib.hid hl
      clear hl
      by_cases hlt : k < n1
      · obtain ⟨b, o, rfl, hbl, hc⟩ := (o1.rd.ext hx).at (by omega)
        have hck := hc k hlt
        have hki : (k : Int) < n1 := by omega
        clear hc
        go_wp2_with fail
        refine (l07Sound_any _ _ _ _ _ _ (hr.ext (x1.trans hx)) HZ.out.1.1 (wordsB_at HW.out.1 (by omega))).mono ?_
        rintro e w3 ⟨rfl, e3⟩
        have ho3 := ho.ext e3
        have hx3 := hx.trans e3
        have hst : ((splitC 32 s).take (k + 1)).map (soundT t) = ((splitC 32 s).take k).map (soundT t) ++ [soundT t (nthS (splitC 32 s) k)] := by
          rw [List.take_succ_eq_append_getElem (by omega), List.map_append, nthS_eq (by omega)]; rfl
        have HS := Lib.hid hst
        clear hst
        go_wp2_with (first | (at_builtin; refine wpList_appG layS rfl _ _ 29 9 rfl Tryz.underlying29 (.string ⟨#[]⟩) 16 Tryz.info_string rfl (by decide) w1.heap.size _ l.length _ l rfl (ho3.alloc _) _ 1 _ [soundT t (nthS (splitC 32 s) k)] rfl (RdG.new1 layS _ _ _ rfl _) (by omega) (hx3.alloc _).size ?_; intro a4 c4 w4 hown hgrow; have hb2 := hx3.appG ho3 (Nat.le_refl _) hgrow; have HO := Lib.hid hown; clear hown))
        go_roundw
        case rel => exact ⟨k + 1, l ++ [soundT t (nthS (splitC 32 s) k)], a4, c4, by omega, by go_num, by simp, by rw [HS.out, ← HL.out], by simpa using HO.out, hb2⟩
        case measure => simp [intOf]; omega
      · obtain rfl : k = n1 := by omega
        have hall : l = psL t s := by
          have := HL.out
          rw [List.take_of_length_le (by omega)] at this
          exact this
        subst hall
        have hpl : (psL t s).length = k := by simp [psL]; omega
        have hrd : RdS wr a2 (psL t s).length (psL t s) := ⟨ho.rd, HW.out.2.1⟩
        have htt : tot (psL t s) + (psL t s).length ≤ 1073741824 := by have : tot (psL t s) = 4 * (splitC 32 s).length := htot; omega
        clear ho hpl
        go_wp2_with fail
        refine (l01Words_any _ _ _ _ _ hrd htt).mono ?_
        rintro e w' ⟨rfl, rfl⟩
        go_wp2
        go_ret2
        exact ⟨by rw [HZ.out.2.1, HZ.out.2.2]; rfl, x1.trans hx⟩

set_option maxRecDepth 100000 in
set_option maxHeartbeats 400000 in
theorem implPhraseSound_any (a : Option Addr) (n c : Nat) (s : ByteArray) (t : List Int) (w : World) (hr : RdI w a n t) (hs : s.size ≤ 1073741824) (hmax : MaxW w) :
    Calls Tryz.prog 15 #[.slice a n c, .string s] w (RetSC w (psV t s) (psC t s)) := by
  cases h0 : soundB t
  · have HZ := Lib.hid (And.intro h0 (ps_bad (s := s) (.inl h0)))
    clear h0
    go_enter Tryz.func15, Tryz.ntmps15
    go_wp2_with (first | (go_at_call 22; refine (implIsSoundTable_any _ _ _ _ _ hr).mono ?_; rintro e w' ⟨rfl, rfl⟩; rw [HZ.out.1]))
    go_ret2
    exact ⟨by rw [HZ.out.2.1, HZ.out.2.2]; rfl, Ext.refl _⟩
  cases h1 : phraseB s
  · have HZ := Lib.hid (And.intro (And.intro h0 h1) (ps_bad (t := t) (.inr h1)))
    clear h0 h1
    go_enter Tryz.func15, Tryz.ntmps15
    go_wp2_with (first | (go_at_call 22; refine (implIsSoundTable_any _ _ _ _ _ hr).mono ?_; rintro e w' ⟨rfl, rfl⟩; rw [HZ.out.1.1]) | fail)
    refine (implIsPhrase_any _ _ hs hmax).mono ?_
    rintro e w1 ⟨rfl, e1⟩
    rw [HZ.out.1.2]
    go_wp2
    go_ret2
    exact ⟨by rw [HZ.out.2.1, HZ.out.2.2]; rfl, e1⟩
  · have HZ := Lib.hid (And.intro (And.intro h0 h1) (ps_good h0 h1))
    clear h0 h1
    go_enter Tryz.func15, Tryz.ntmps15
    go_wp2_with (first | (go_at_call 22; refine (implIsSoundTable_any _ _ _ _ _ hr).mono ?_; rintro e w' ⟨rfl, rfl⟩; rw [HZ.out.1.1]) | fail)
    refine (implIsPhrase_any _ _ hs hmax).mono ?_
    rintro e w1 ⟨rfl, e1⟩
    rw [HZ.out.1.2]
    go_wp2_with fail
    refine (phraseSound_any _ _ _ _ _ _ (hr.ext e1) HZ.out.1.1 HZ.out.1.2 hs (hmax.ext e1)).mono ?_
    rintro e w2 ⟨rfl, e2⟩
    go_wp2
    go_ret2
    exact ⟨by rw [HZ.out.2.1, HZ.out.2.2]; rfl, e1.trans e2⟩

end Go.Proofs.YtfglmoedicijkaaGreatDoor
