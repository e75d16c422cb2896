/-
  CONTRACT of token.Signs, at any text.
-/
import Derived.Test.YtkobkeopajohiaaGreatDoorU1
import Derived.Lib.OthersKept
import Derived.WalkSmall
namespace Go.Proofs.YtkobkeopajohiaaGreatDoor
open Go.RowKit Go.Lib

/-- at a place there is no sign -/
def badAt (s : ByteArray) (pos : Nat) : Bool := (Utf8.decode s pos).1 == 65533 && (Utf8.decode (s.extract pos s.size) 0).2 == 1
def signsFrom (s : ByteArray) : Nat → Nat → Int → Int × Bool
  | 0, _, n => (n, true)
  | f + 1, pos, n => if pos < s.size then (if badAt s pos then (0, false) else signsFrom s f (pos + (Utf8.decode s pos).2) (n + 1)) else (n, true)

set_option maxHeartbeats 1600000 in
set_option maxRecDepth 1000000 in
theorem signs_any (s : ByteArray) (w : World) (hT : Lib.Utf8Tabs 4 5 w) (h7 : 5 < w.heap.size) (hs : s.size < 9223372036854775807) (R : Int × Bool) (hR : signsFrom s s.size 0 0 = R) :
    Calls Tryz.prog 125 #[.string s] w fun e w' => e = .returned (.tuple #[.int .i64 R.1, .bool R.2]) ∧ Below w.heap.size w w' := by
  have HR := Lib.hid hR
  clear hR
  go_enter Tryz.func125, Tryz.ntmps125
  go_wp2
  go_loopw [4] (fun n wr => ∃ (pos b : Nat) (acc : Int), n = .int .i64 acc ∧ Hid (wr.heap[w.heap.size]? = some (.stringIter s pos)) ∧ w.heap.size < wr.heap.size ∧ Hid (signsFrom s b pos acc = R) ∧ s.size ≤ pos + b ∧ 0 ≤ acc ∧ acc ≤ pos ∧ Hid (Below w.heap.size w wr))
    (fun _ wr => s.size - wr.iterPos w.heap.size)
  case atStart => exact ⟨0, s.size, 0, rfl, Lib.hid (last_block _ _ _ rfl), by simp [World.iter], Lib.hid HR.out, by omega, by omega, by omega, Lib.hid ((Below.refl _ _).alloc (Nat.le_refl _) _)⟩
  case round =>
    obtain ⟨pos, b, acc, rfl, hit, hlt, hinv, hb, ha0, ha1, hbl⟩ := hrel
    by_cases hp : pos < s.size
    · have hnx := fun ty => run_next_any_at (P := Tryz.prog) wr w.heap.size s pos ty hit.out hp
      have hwd := width_pos s pos hp
      have hle := decode_le s pos
      obtain ⟨f, rfl⟩ : ∃ f, b = f + 1 := ⟨b - 1, by omega⟩
      have hst : Hid ((if badAt s pos then ((0, false) : Int × Bool) else signsFrom s f (pos + (Utf8.decode s pos).2) (acc + 1)) = R) := Lib.hid (by have := hinv.out; unfold signsFrom at this; rw [if_pos hp] at this; exact this)
      have hit2 := Lib.hid (iterAt_heap wr w.heap.size s pos (pos + (Utf8.decode s pos).2) hit.out)
      have hbl2 : Hid (Below w.heap.size w (wr.iterAt w.heap.size s (pos + (Utf8.decode s pos).2))) := Lib.hid (hbl.out.trans ⟨rfl, rfl, rfl, by rw [iterAt_size]; exact Nat.le_refl _, fun i hi => iterAt_other wr w.heap.size i s _ (by omega)⟩)
      have hsz2 : Hid ((wr.iterAt w.heap.size s (pos + (Utf8.decode s pos).2)).heap.size = wr.heap.size) := Lib.hid (iterAt_size ..)
      obtain ⟨wi, hwi⟩ : ∃ wi, wr.iterAt w.heap.size s (pos + (Utf8.decode s pos).2) = wi := ⟨_, rfl⟩
      rw [hwi] at hnx hit2 hbl2 hsz2
      have hbad : Hid (badAt s pos = ((Utf8.decode s pos).1 == 65533 && (Utf8.decode (s.extract pos s.size) 0).2 == 1)) := Lib.hid rfl
      obtain ⟨a, ha⟩ : ∃ a, (Utf8.decode s pos).1 = a := ⟨_, rfl⟩
      obtain ⟨d, hd⟩ : ∃ d, (Utf8.decode s pos).2 = d := ⟨_, rfl⟩
      rw [ha] at hnx hle hbad
      rw [hd] at hst hit2 hwd
      clear hwi ha hd hbl hinv
      by_cases h65 : a = 65533
      · subst h65
        obtain ⟨x, hx⟩ : ∃ x, s.extract pos s.size = x := ⟨_, rfl⟩
        have hx0 : 0 < x.size := by
          rw [← hx, size_eq, extract_data, List.length_take, List.length_drop, ← size_eq]; omega
        have HD := Lib.hid fun w hT => Tryz.utf8_DecodeRuneInString x w hT
        rw [decode_zero x hx0] at HD
        rw [hx] at hbad
        obtain ⟨u, hu⟩ : ∃ u, (Utf8.decode x 0).2 = u := ⟨_, rfl⟩
        rw [hu] at HD hbad
        have HX := Lib.hid hx
        clear hx hu hx0
        go_wp2_with (first | (go_at_call 149; fail))
        rw [HX.out]
        go_at_call 149
        refine (HD.out _ (tabs_below hT hbl2.out h7)).mono ?_
        rintro e w1 ⟨rfl, hb1⟩
        have hlt1 : w.heap.size < wi.heap.size := by rw [hsz2.out]; exact hlt
        have hbl3 := Lib.hid (hbl2.out.trans (hb1.mono (Nat.le_of_lt hlt1)))
        have hit3 := Lib.hid ((hb1.block w.heap.size hlt1).trans hit2.out)
        have hlt3 : w.heap.size < w1.heap.size := Nat.lt_of_lt_of_le hlt1 hb1.size
        clear hb1 hit2 hbl2 hlt1 hsz2 hnx
        by_cases hu : u = 1
        · subst hu
          have hRR : Hid (R = (0, false)) := Lib.hid (by rw [← hst.out, hbad.out]; rfl)
          go_wp2
          go_ret2
          exact ⟨by rw [hRR.out]; rfl, hbl3.out⟩
        · have hu1 : ¬ ((u : Int) = 1) := by omega
          have hRR : Hid (signsFrom s f (pos + d) (acc + 1) = R) := Lib.hid (by
            have := hst.out
            rw [hbad.out, show ((65533 : Nat) == 65533 && u == 1) = false by simp [hu]] at this
            exact this)
          go_wp2
          go_roundw
          case rel => exact ⟨pos + d, f, acc + 1, rfl, hit3, hlt3, hRR, by omega, by omega, by omega, hbl3⟩
          case measure => rw [iterPos_of hit3.out, iterPos_of hit.out]; omega
      · have hne : ¬ ((a : Int) = 65533) := by omega
        have hRR : Hid (signsFrom s f (pos + d) (acc + 1) = R) := Lib.hid (by
          have := hst.out
          rw [hbad.out, show (a == 65533) = false by simp [h65]] at this
          exact this)
        have hlt1 : w.heap.size < wi.heap.size := by rw [hsz2.out]; exact hlt
        go_wp2
        go_roundw
        case rel => exact ⟨pos + d, f, acc + 1, rfl, hit2, hlt1, hRR, by omega, by omega, by omega, hbl2⟩
        case measure => rw [iterPos_of hit2.out, iterPos_of hit.out]; omega
    · have hnx := fun ty => run_next_end_at (P := Tryz.prog) wr w.heap.size s pos ty hit.out hp
      have hRR : Hid (R = (acc, true)) := Lib.hid (by
        rw [← hinv.out]
        cases b with
        | zero => rfl
        | succ b => unfold signsFrom; rw [if_neg hp])
      go_wp2
      go_ret2
      exact ⟨by rw [hRR.out]; rfl, hbl.out⟩
end Go.Proofs.YtkobkeopajohiaaGreatDoor
