/-
  CONTRACT of the reference's Fixed.
-/
import Derived.Test.YtkobkeopajohiaaDoorT3

namespace Go.Proofs.YtkobkeopajohiaaDoor
open Go.RowKit Go.Lib

set_option maxHeartbeats 1600000 in
theorem refFixed_is (a p : Int) (t : ByteArray) (ok : Bool) (w : World) (ha : -999999999999999999 ≤ a ∧ a ≤ 999999999999999999) (hf : FixIs a p t ok) :
    Calls Tryd.prog 29 #[.int .i64 a, .int .i64 p] w fun e w' => e = .returned (.tuple #[.string t, .bool ok]) ∧ Below w.heap.size w w' := by
  rcases hf with ⟨hp, rfl, rfl⟩ | ⟨⟨p0, p1⟩, hr, rfl, rfl⟩ | ⟨⟨p0, p1⟩, hr, ht, rfl⟩
  · rcases hp with hp | hp
    all_goals
      go_enter Tryd.func29, Tryd.ntmps29
      go_wp2
      go_ret2
      exact ⟨rfl, Below.refl _ _⟩
  · have HR := Lib.hid (refRound_any a p w ha)
    rw [hr] at HR
    generalize (Tab.roundS a p).1 = r at *
    clear hr
    go_enter Tryd.func29, Tryd.ntmps29
    go_wp2_with (first
      | (go_at_call 31; refine HR.out.mono ?_; rintro e w1 ⟨rfl, hb1⟩))
    go_ret2
    exact ⟨rfl, hb1⟩
  · have hrb := (Tab.near_law a p ha ⟨p0, p1⟩ (Tab.roundS a p).1 (by rw [← hr])).1
    have HR := Lib.hid (refRound_any a p w ha)
    rw [hr] at HR
    generalize (Tab.roundS a p).1 = r at *
    obtain ⟨r0, r1⟩ := hrb
    have sz : (r.natAbs : Int) ≤ 999999999999999999 := by omega
    obtain ⟨s1, e1⟩ : ∃ s1 : ByteArray, s1.data.toList = decDigits r.natAbs := ⟨⟨(decDigits _).toArray⟩, rfl⟩
    have z1 : s1.size ≤ 20 := by rw [size_eq, e1]; exact dec_size _ (by omega)
    have E1 := Lib.hid e1
    have HT := Lib.hid ht
    clear e1 ht hr
    obtain ⟨k, rfl⟩ := Int.eq_ofNat_of_zero_le p0
    have hk : k ≤ 4 := by omega
    go_enter Tryd.func29, Tryd.ntmps29
    go_wp2_with (first
      | (go_at_call 31; fail))
    go_at_call 31
    refine HR.out.mono ?_
    rintro e w1 ⟨rfl, hb1⟩
    go_wp2_with (first
      | (go_at_call 34; refine (refSize_any r _ (by omega) (by omega)).mono ?_; rintro e w' ⟨rfl, rfl⟩))
    go_at_call 65
    refine (digits_is _ s1 _ (by omega) (by omega) (by rw [E1.out]; congr 1)).mono ?_
    rintro e w2 ⟨rfl, hb2⟩
    have hb12 := hb1.trans (hb2.mono hb1.size)
    go_wp2_with (fail)
    go_loop [8] (fun v => ∃ t : ByteArray, v = .string t ∧ t.size ≤ 20 ∧ Hid (PadInv s1.data.toList t)) (fun v => match v with | .string t => 5 - t.size | _ => 0)
    case atStart => exact ⟨s1, rfl, z1, padInv_start s1⟩
    case round =>
      obtain ⟨u, rfl, htz, hu⟩ := hrel
      by_cases hlt : u.size < 5
      · obtain ⟨h1, h2⟩ := padInv_step hu.out hlt
        have H1 := Lib.hid h1
        have H2 := Lib.hid h2
        clear h1 h2
        go_wp2
        go_round
        case rel => exact ⟨_, rfl, by rw [H2.out]; omega, H1.out⟩
        case measure => show 5 - (⟨#[48]⟩ ++ u : ByteArray).size < 5 - u.size; rw [H2.out]; omega
      · have hp := padInv_end hu.out (by omega)
        rw [E1.out, Tab.pad_four] at hp
        obtain ⟨q1, q2, q3⟩ := parts_of r.natAbs u hp
        have hq4 : (u.extract (u.size - 4) (u.size - 4 + k)).data.toList = (Tab.four (r.natAbs % 10000)).take k := by
          rw [← q2, extract_data, extract_data, List.take_take]
          congr 1; omega
        have w1z : (u.extract 0 (u.size - 4)).size ≤ 20 := by rw [size_eq, q1]; omega
        have w2z : (u.extract (u.size - 4) (u.size - 4 + k)).size ≤ 4 := by rw [size_eq, hq4, List.length_take]; omega
        have x0 : 0 ≤ (u.size : Int) - 4 := by omega
        have x1 : (u.size : Int) - 4 ≤ u.size := by omega
        have x2 : (u.size : Int) - 4 + k ≤ u.size := by omega
        have htk := HT.out
        rw [Int.toNat_natCast] at htk
        unfold Tab.fixL at htk
        rw [← q1] at htk
        clear hp q1 q2 q3
        by_cases hpos : 0 < k
        · rw [if_pos hpos, ← hq4] at htk
          have hpi : (0 : Int) < (k : Int) := by omega
          have hpd : decide (0 < k) = true := decide_eq_true hpos
          clear hq4
          by_cases hneg : r < 0
          · rw [if_pos hneg] at htk
            have hfin : (⟨#[45]⟩ ++ (u.extract 0 (u.size - 4) ++ (⟨#[46]⟩ ++ u.extract (u.size - 4) (u.size - 4 + k))) : ByteArray) = t := ba_eq (by rw [htk]; simp only [ByteArray.data_append, Array.toList_append]; rfl)
            have HF := Lib.hid hfin
            clear hfin htk
            go_wp2
            go_ret2
            exact ⟨ret_sb HF.out, hb12⟩
          · rw [if_neg hneg] at htk
            have hfin : (u.extract 0 (u.size - 4) ++ (⟨#[46]⟩ ++ u.extract (u.size - 4) (u.size - 4 + k)) : ByteArray) = t := ba_eq (by rw [htk]; simp only [ByteArray.data_append, Array.toList_append]; rfl)
            have HF := Lib.hid hfin
            clear hfin htk
            go_wp2
            go_ret2
            exact ⟨ret_sb HF.out, hb12⟩
        · rw [if_neg hpos, List.append_nil] at htk
          have hpi : (k : Int) ≤ 0 := by omega
          have hpd : decide (0 < k) = false := decide_eq_false hpos
          clear hq4
          by_cases hneg : r < 0
          · rw [if_pos hneg] at htk
            have hfin : (⟨#[45]⟩ ++ u.extract 0 (u.size - 4) : ByteArray) = t := ba_eq (by rw [htk]; simp only [ByteArray.data_append, Array.toList_append])
            have HF := Lib.hid hfin
            clear hfin htk
            go_wp2
            go_ret2
            exact ⟨ret_sb HF.out, hb12⟩
          · rw [if_neg hneg] at htk
            have hfin : u.extract 0 (u.size - 4) = t := ba_eq (by rw [htk]; rfl)
            have HF := Lib.hid hfin
            clear hfin htk
            go_wp2
            go_ret2
            exact ⟨ret_sb HF.out, hb12⟩
end Go.Proofs.YtkobkeopajohiaaDoor
