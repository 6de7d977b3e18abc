/-
  Phrases: the walks of the reference's splitting and test.
-/
import Derived.Test.YtdicjpkcgeofjaaGreatDoorY
namespace Go.Proofs.YtdicjpkcgeofjaaGreatDoor
open Go.RowKit

theorem extract_list (s : ByteArray) (i j : Nat) : (s.extract i j).data.toList = (s.data.toList.drop i).take (j - i) := by
  rw [ByteArray.data_extract, Array.toList_extract, List.extract_eq_take_drop]

/-- What the loop has done: the pieces so far, and where the next begins. -/
def Cut (c : UInt8) (s : ByteArray) (out : List ByteArray) (f i : Nat) : Prop :=
  (i ≤ s.size ∧ f ≤ i ∧ splitL c s.data.toList = out.map (·.data.toList) ++ splitL c (s.data.toList.drop f) ∧ ∀ j x, f ≤ j → j < i → s.data.toList[j]? = some x → x ≠ c) ∨
  (i = s.size + 1 ∧ f = s.size + 1 ∧ splitL c s.data.toList = out.map (·.data.toList))
theorem Cut.start (c : UInt8) (s : ByteArray) : Cut c s [] 0 0 := .inl ⟨Nat.zero_le _, Nat.le_refl _, by simp, fun j x _ h => by omega⟩
theorem size_list (s : ByteArray) : s.data.toList.length = s.size := rfl
theorem Cut.last {c : UInt8} {s : ByteArray} {out : List ByteArray} {f : Nat} (h : Cut c s out f s.size) : Cut c s (out ++ [s.extract f s.size]) (s.size + 1) (s.size + 1) := by
  rcases h with ⟨_, hf, he, hp⟩ | ⟨h1, _⟩
  · refine .inr ⟨rfl, rfl, ?_⟩
    rw [he, splitL_miss, List.map_append, List.map_singleton, extract_list]
    · rw [List.take_of_length_le (by rw [List.length_drop, size_list]; exact Nat.le_refl _)]
    · intro x hx
      obtain ⟨j, hj⟩ := List.getElem?_of_mem hx
      rw [List.getElem?_drop] at hj
      have hl := (List.getElem?_eq_some_iff.1 hj).1
      rw [size_list] at hl
      exact hp _ x (by omega) (by omega) hj
  · omega
theorem Cut.hit {c : UInt8} {s : ByteArray} {out : List ByteArray} {f i : Nat} (h : Cut c s out f i) (hi : i < s.size) (hc : s[i] = c) : Cut c s (out ++ [s.extract f i]) (i + 1) (i + 1) := by
  rcases h with ⟨_, hf, he, hp⟩ | ⟨h1, _⟩
  · refine .inl ⟨by omega, Nat.le_refl _, ?_, fun j x _ h => by omega⟩
    have hit := splitL_hit (c := c) (l := s.data.toList.drop f) (k := i - f)
      (by rw [List.getElem?_drop, show f + (i - f) = i by omega, List.getElem?_eq_getElem (by rw [size_list]; exact hi)]; exact congrArg some hc)
      (fun j x hj hx => by rw [List.getElem?_drop] at hx; exact hp _ x (by omega) (by omega) hx)
    rw [he, hit, List.map_append, List.map_singleton, extract_list, List.drop_drop, show f + (i - f + 1) = i + 1 by omega, List.append_assoc]
    rfl
  · omega
theorem Cut.miss {c : UInt8} {s : ByteArray} {out : List ByteArray} {f i : Nat} (h : Cut c s out f i) (hi : i < s.size) (hc : s[i] ≠ c) : Cut c s out f (i + 1) := by
  rcases h with ⟨_, hf, he, hp⟩ | ⟨h1, _⟩
  · refine .inl ⟨by omega, by omega, he, fun j x h1 h2 hx => ?_⟩
    by_cases e : j = i
    · subst e
      rw [List.getElem?_eq_getElem (by rw [size_list]; exact hi)] at hx
      cases hx
      exact hc
    · exact hp j x h1 (by omega) hx
  · omega
theorem Cut.fin {c : UInt8} {s : ByteArray} {out : List ByteArray} {f : Nat} (h : Cut c s out f (s.size + 1)) : splitC c s = out := by
  rcases h with ⟨h1, _⟩ | ⟨_, _, h⟩
  · omega
  · rw [splitC, h, List.map_map]
    exact List.map_id _
theorem Cut.le {c : UInt8} {s : ByteArray} {out : List ByteArray} {f i : Nat} (h : Cut c s out f i) : f ≤ i ∧ i ≤ s.size + 1 := by
  rcases h with ⟨h1, h2, _⟩ | ⟨h1, h2, _⟩ <;> omega
theorem Cut.num {c : UInt8} {s : ByteArray} {out : List ByteArray} {f i : Nat} (h : Cut c s out f i) : out.length ≤ s.size + 1 := by
  have hn := splitL_num (c := c) (l := s.data.toList)
  rw [size_list] at hn
  rcases h with ⟨_, _, h, _⟩ | ⟨_, _, h⟩ <;> rw [h] at hn <;> simp at hn <;> omega
theorem Cut.small {c : UInt8} {s : ByteArray} {out : List ByteArray} {f i : Nat} (h : Cut c s out f i) : ∀ p ∈ out, p.size ≤ s.size := by
  intro p hp
  have hm : p.data.toList ∈ splitL c s.data.toList := by
    rcases h with ⟨_, _, h, _⟩ | ⟨_, _, h⟩ <;> rw [h] <;> simp <;> first | exact .inl ⟨p, hp, rfl⟩ | exact ⟨p, hp, rfl⟩
  have := splitL_len _ hm
  rwa [size_list, size_list] at this

set_option maxRecDepth 100000 in
set_option maxHeartbeats 1000000 in
theorem l01Split_any (s : ByteArray) (c : UInt8) (w : World) (hs : s.size ≤ 1073741824) :
    Calls Tryz.prog 78 #[.string s, .int .u8 c.toNat] w fun e w' => ∃ v, e = .returned v ∧ NewS w w' (splitC c s) v := by
  go_enter Tryz.func78, Tryz.ntmps78
  go_wp2
  go_loopw [5, 6, 7] (fun u t v wr => ∃ (i f : Nat) (out : List ByteArray) (a1 : Option Addr) (c1 : Nat), u = .slice a1 out.length c1 ∧ t = .int .i64 f ∧ v = .int .i64 i ∧ OwnG layS 9 wr w.heap.size a1 out.length c1 out ∧ Ext w wr ∧ Cut c s out f i) (fun _ _ v _ => s.size + 1 - (intOf v).toNat)
  case atStart => exact ⟨0, 0, [], _, _, rfl, rfl, rfl, OwnG.lit layS 9 w (Nat.le_refl _) [] #[] rfl (by simp), (Ext.refl _).alloc _, Cut.start c s⟩
  case round =>
    obtain ⟨i, f, out, a1, c1, rfl, rfl, rfl, ho, hx, hcut⟩ := hrel
    have hle := hcut.le
    have hnum := hcut.num
    have HC := Lib.hid hcut
    clear hcut
    by_cases hi : i < s.size
    · by_cases hc : s[i] = c
      · have hb : ((s[i].toNat : Int) == (c.toNat : Int)) = true := by rw [hc]; simp
        have HH := Lib.hid hc
        clear hc
        go_wp2_with (first | (at_builtin; refine wpList_appG layS rfl _ _ 24 9 rfl Tryz.underlying24 (.string ⟨#[]⟩) 16 Tryz.info_string rfl (by decide) w.heap.size _ out.length _ out rfl (ho.alloc _) _ 1 _ [s.extract f i] rfl (RdG.new1 layS _ _ _ rfl _) (by omega) (hx.alloc _).size ?_; intro a2 c2 w2 hown hgrow; have hb2 := hx.appG ho (Nat.le_refl _) hgrow; have HO := Lib.hid hown; clear hown))
        go_roundw
        case rel => exact ⟨i + 1, i + 1, out ++ [s.extract f i], a2, c2, by simp, by go_num, by go_num, by simpa using HO.out, hb2, HC.out.hit hi HH.out⟩
        case measure => simp [intOf]; omega
      · have hb : ((s[i].toNat : Int) == (c.toNat : Int)) = false := by
          rw [beq_eq_false_iff_ne]; intro e; exact hc (UInt8.toNat_inj.1 (by omega))
        have HH := Lib.hid hc
        clear hc
        go_wp2
        go_roundw
        case rel => exact ⟨i + 1, f, out, _, _, rfl, rfl, by go_num, ho, hx, HC.out.miss hi HH.out⟩
        case measure => simp [intOf]; omega
    · by_cases hi2 : i = s.size
      · subst hi2
        go_wp2_with (first | (at_builtin; refine wpList_appG layS rfl _ _ 24 9 rfl Tryz.underlying24 (.string ⟨#[]⟩) 16 Tryz.info_string rfl (by decide) w.heap.size _ out.length _ out rfl (ho.alloc _) _ 1 _ [s.extract f s.size] rfl (RdG.new1 layS _ _ _ rfl _) (by omega) (hx.alloc _).size ?_; intro a2 c2 w2 hown hgrow; have hb2 := hx.appG ho (Nat.le_refl _) hgrow; have HO := Lib.hid hown; clear hown))
        go_roundw
        case rel => exact ⟨s.size + 1, s.size + 1, out ++ [s.extract f s.size], a2, c2, by simp, by go_num, by go_num, by simpa using HO.out, hb2, HC.out.last⟩
        case measure => simp [intOf]
      · obtain rfl : i = s.size + 1 := by omega
        go_wp2
        go_ret
        exact ⟨_, rfl, _, _, _, rfl, ⟨by rw [HC.out.fin]; exact ho, by rw [HC.out.fin]; exact fun p hp => by have := HC.out.small p hp; omega⟩, hx⟩

/-- The words of a text, none if one of them is no word. -/
def phraseT (s : ByteArray) : List ByteArray := if wordsB (splitC 32 s) = true then splitC 32 s else []
theorem phraseT_good {s : ByteArray} (h : wordsB (splitC 32 s) = true) : phraseT s = splitC 32 s := if_pos h
theorem phraseT_bad {s : ByteArray} (h : wordsB (splitC 32 s) = false) : phraseT s = [] := if_neg (by rw [h]; decide)
set_option maxRecDepth 100000 in
set_option maxHeartbeats 1000000 in
theorem l01Phrase_any (s : ByteArray) (w : World) (hs : s.size ≤ 1073741824) :
    Calls Tryz.prog 51 #[.string s] w fun e w' => ∃ v, e = .returned (.tuple #[v, .bool (phraseB s)]) ∧ NewS w w' (phraseT s) v := by
  have hnum := splitC_num (c := 32) (s := s)
  go_enter Tryz.func51, Tryz.ntmps51
  go_wp2_with fail
  refine (l01Split_any s 32 _ hs).mono ?_
  rintro e w1 ⟨v1, rfl, a1, n1, c1, rfl, o1, x1⟩
  have hr := o1.rd
  have hln := hr.len
  have hm := hr.le
  go_wp2
  go_loop [5] (fun i => ∃ k : Nat, k ≤ n1 ∧ i = .int .i64 k ∧ ∀ j, j < k → wordB (nthS (splitC 32 s) j) = true) (fun i => n1 - (intOf i).toNat)
  case atStart => exact ⟨0, Nat.zero_le _, rfl, fun j h => by omega⟩
  case round =>
    obtain ⟨k, hk, rfl, hall⟩ := hrel
    have HA := Lib.hid hall
    clear hall
    by_cases hlt : k < n1
    · obtain ⟨b, o, rfl, hbl, hc⟩ := hr.at (by omega)
      have hck := hc k hlt
      have hsz := hr.size hlt
      clear hc
      cases h : wordB (nthS (splitC 32 s) k)
      · have HH := Lib.hid h
        clear h
        go_wp2_with (go_at_call 79; refine (specIsWord_any _ _ (by omega)).mono ?_; rintro e w' ⟨rfl, rfl⟩; rw [HH.out])
        go_ret2
        have hbad := wordsB_bad (by rw [hln]; exact hlt) HH.out
        exact ⟨_, by rw [phraseB, hbad, Bool.and_false]; rfl, by rw [phraseT_bad hbad]; exact (NewS.nil _ _ x1)⟩
      · have HH := Lib.hid h
        clear h
        go_wp2_with (go_at_call 79; refine (specIsWord_any _ _ (by omega)).mono ?_; rintro e w' ⟨rfl, rfl⟩; rw [HH.out])
        go_round
        case rel =>
          refine ⟨k + 1, by omega, by go_num, fun j hj => ?_⟩
          by_cases e : j = k
          · rw [e]; exact HH.out
          · exact HA.out j (by omega)
        case measure => simp [intOf]; omega
    · obtain rfl : k = n1 := by omega
      have hgood := wordsB_good (ss := splitC 32 s) (by rw [hln]; exact HA.out)
      have HG := Lib.hid hgood
      clear hgood
      go_wp2
      go_ret2
      refine ⟨_, ?_, by rw [phraseT_good HG.out]; exact ⟨_, _, _, rfl, o1, x1⟩⟩
      have hph : phraseB s = decide ((k : Int) ≤ 8) := by rw [phraseB, HG.out, Bool.and_true, hln]; exact decide_eq_decide.2 (by omega)
      rw [hph]
      rfl

theorem specIsPhrase_any (s : ByteArray) (w : World) (hs : s.size ≤ 1073741824) :
    Calls Tryz.prog 49 #[.string s] w fun e w' => e = .returned (.bool (phraseB s)) ∧ Ext w w' := by
  go_enter Tryz.func49, Tryz.ntmps49
  go_wp2_with fail
  refine (l01Phrase_any s _ hs).mono ?_
  rintro e w1 ⟨v, rfl, a1, n1, c1, rfl, o1, x1⟩
  go_wp2
  go_ret
  exact ⟨rfl, x1⟩

end Go.Proofs.YtdicjpkcgeofjaaGreatDoor
