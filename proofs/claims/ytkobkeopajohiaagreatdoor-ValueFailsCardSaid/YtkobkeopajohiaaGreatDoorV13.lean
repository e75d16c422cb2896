/-
  CONTRACT of the helper awake of layer 16: it answers true.
-/
import Derived.Test.YtkobkeopajohiaaGreatDoorV11
import Derived.Test.YtkobkeopajohiaaGreatDoorV12
namespace Go.Proofs.YtkobkeopajohiaaGreatDoor
open Go.RowKit Go.Lib

set_option maxHeartbeats 1600000 in
set_option maxRecDepth 100000 in
theorem call_LCM (vs : List V) (g cap : Nat) (m n q : Nat) (w : World) (hG : GM w) (hA : ArgsAt w g vs) (hs : ∀ v ∈ vs, v.short 4294967) (hlen : vs.length = 2) (hnum : nums vs [] = ([(m : Int) * 10000, (n : Int) * 10000], 0))
    (hm : 1 ≤ m ∧ m ≤ 1000000) (hn : 1 ≤ n ∧ n ≤ 1000000) (hq : m / Nat.gcd m n = q)
    (hmul : ∀ w, Calls Tryz.prog 95 #[.int .i64 ((q : Int) * 10000), .int .i64 ((n : Int) * 10000)] w fun e w' => e = .returned (.tuple #[.int .i64 (((q * n : Nat) : Int) * 10000), .bool true]) ∧ Below w.heap.size w w') :
    Calls Tryz.prog 13 #[.string ⟨#[76, 67, 77]⟩, .slice (some ⟨g, 0, none⟩) 2 cap] w fun e w' => e = .returned (V.num (((q * n : Nat) : Int) * 10000)).val ∧ Below w.heap.size w w' := by
  have HN := Lib.hid (hlen ▸ numbers_any vs g cap w hG hA hs (by omega) _ hnum)
  have HM := Lib.hid fun g cap w h0 h1 => many_lcm g cap m n w hm hn q hq hmul h0 h1
  clear hA hs hnum hlen hG hm hn hq hmul
  generalize (((q * n : Nat) : Int) * 10000) = p at *
  generalize (m : Int) * 10000 = a at *
  generalize (n : Int) * 10000 = b at *
  go_enter Tryz.func13, Tryz.ntmps13
  go_wp2_with (first
    | (go_at_call 38; refine (limits_LCM _).mono ?_; rintro e w' ⟨rfl, rfl⟩)
    | (go_at_call 40; fail))
  go_at_call 40
  refine HN.out.mono ?_
  rintro e w1 ⟨l, rfl, ho, hb⟩
  have ho := ho (by trivial)
  obtain ⟨g1, cap1, rfl, _, _⟩ := ho.form (by simp)
  have hc0 : w1.cell? ⟨g1, 0, none⟩ = some (.int .i64 a) := ho.cellAt 0 (by simp)
  have HC1 : Hid (w1.cell? ⟨g1, 1, none⟩ = some (.int .i64 b)) := Lib.hid (ho.cellAt 1 (by simp))
  clear ho HN
  simp only [List.length_cons, List.length_nil, Nat.reduceAdd]
  go_wp2_with (first | (go_at_call 58; fail))
  go_at_call 58
  refine (HM.out g1 cap1 w1 hc0 HC1.out).mono ?_
  rintro e w2 ⟨rfl, hb2⟩
  have hb12 := hb.trans (hb2.mono hb.size)
  go_wp2
  go_ret
  exact ⟨rfl, hb12⟩

theorem plains_two (w : World) (p q : P) : PlainsAt (w.alloc (.cells #[.int .i64 p.kind, .int .i64 p.n, .string p.s, .int .i64 q.kind, .int .i64 q.n, .string q.s] 41)) w.heap.size 0 [p, q] :=
  ⟨by simp, fun k r h => by
    match k, h with
    | 0, h => simp at h; subst h; exact ⟨by rw [World.cell?_alloc_at _ _ _ _ rfl]; rfl, by rw [World.cell?_alloc_at _ _ _ _ rfl]; rfl, by rw [World.cell?_alloc_at _ _ _ _ rfl]; rfl⟩
    | 1, h => simp at h; subst h; exact ⟨by rw [World.cell?_alloc_at _ _ _ _ rfl]; rfl, by rw [World.cell?_alloc_at _ _ _ _ rfl]; rfl, by rw [World.cell?_alloc_at _ _ _ _ rfl]; rfl⟩⟩
theorem args_lcm (w : World) (cap : Nat) (b : Nat) (h : PlainsAt w b 0 [⟨1, 40000, ByteArray.empty⟩, ⟨2, 0, ⟨#[54]⟩⟩]) :
    Calls Tryz.prog 14 #[.slice (some ⟨b, 0, none⟩) 2 cap] w fun e w' => ∃ l rs, e = .returned l ∧ GathersR w' w.heap.size l [.num 40000, .text ⟨#[54]⟩] rs ∧ Below w.heap.size w w' :=
  args_any b 0 cap [⟨1, 40000, ByteArray.empty⟩, ⟨2, 0, ⟨#[54]⟩⟩] [.num 40000, .text ⟨#[54]⟩] rfl (by decide) w h fun k p v h1 h2 w' _ => by
    match k, h1, h2 with
    | 0, h1, h2 => simp at h1 h2; subst h1 h2; exact of_num 40000 w' _ (by omega)
    | 1, h1, h2 => simp at h1 h2; subst h1 h2; exact of_text 1 0 ⟨#[54]⟩ w' signs_six (by decide)
theorem args_up (w : World) (cap : Nat) (b : Nat) (h : PlainsAt w b 0 [⟨1, 12100, ByteArray.empty⟩, ⟨1, 10000, ByteArray.empty⟩]) :
    Calls Tryz.prog 14 #[.slice (some ⟨b, 0, none⟩) 2 cap] w fun e w' => ∃ l rs, e = .returned l ∧ GathersR w' w.heap.size l [.num 12100, .num 10000] rs ∧ Below w.heap.size w w' :=
  args_any b 0 cap [⟨1, 12100, ByteArray.empty⟩, ⟨1, 10000, ByteArray.empty⟩] [.num 12100, .num 10000] rfl (by decide) w h fun k p v h1 h2 w' _ => by
    match k, h1, h2 with
    | 0, h1, h2 => simp at h1 h2; subst h1 h2; exact of_num 12100 w' _ (by omega)
    | 1, h1, h2 => simp at h1 h2; subst h1 h2; exact of_num 10000 w' _ (by omega)
theorem awake_nums : nums [.num 40000, .text ⟨#[54]⟩] [] = ([((4 : Nat) : Int) * 10000, ((6 : Nat) : Int) * 10000], 0) := by decide +kernel
theorem awake_up : awayV 12100 1 = .num 13000 := by rfl

theorem mul_awake (w : World) : Calls Tryz.prog 95 #[.int .i64 (((2 : Nat) : Int) * 10000), .int .i64 (((6 : Nat) : Int) * 10000)] w fun e w' => e = .returned (.tuple #[.int .i64 (((2 * 6 : Nat) : Int) * 10000), .bool true]) ∧ Below w.heap.size w w' :=
  (mul_lo 20000 60000 120000 w (by decide) (by decide) (by decide) (by decide) (by decide)).mono fun e w' ⟨h1, k, h2⟩ => ⟨h1, by rw [h2]; exact below_drewN (Below.refl _ _) k⟩

set_option maxHeartbeats 1600000 in
set_option maxRecDepth 100000 in
theorem awake16 (w : World) (hG : GM w) (hT : GT w) : Calls Tryz.prog 9 #[] w fun e w' => e = .returned (.bool true) ∧ Below w.heap.size w w' := by
  go_enter Tryz.func9, Tryz.ntmps9
  go_wp2_with (first | (go_at_call 14; fail))
  go_at_call 14
  refine (args_lcm _ _ _ (plains_two w ⟨1, 40000, ByteArray.empty⟩ ⟨2, 0, ⟨#[54]⟩⟩)).mono ?_
  rintro e w1 ⟨l, rs, rfl, hg, hb⟩
  obtain ⟨g, cap, rfl, _, hA⟩ := hg.at (by simp)
  have hb1 : Below w.heap.size w w1 := ((Below.refl _ _).alloc (Nat.le_refl _) _).trans (hb.mono (by simp))
  have HK := Lib.hid (call_LCM _ g cap 4 6 2 w1 (hG.below hb1) hA (by intro v hv; simp at hv; rcases hv with rfl | rfl <;> simp [V.short]; decide) rfl awake_nums (by decide) (by decide) (by decide) mul_awake)
  clear hg hA hb
  simp only [List.length_cons, List.length_nil, Nat.reduceAdd]
  go_wp2_with (first | (go_at_call 13; fail))
  go_at_call 13
  refine HK.out.mono ?_
  rintro e w2 ⟨rfl, hb2⟩
  have hb02 : Below w.heap.size w w2 := hb1.trans (hb2.mono hb1.size)
  clear hb1 hb2 HK
  go_wp2_with (first | (go_at_call 14; fail))
  go_at_call 14
  refine (args_up _ _ _ (plains_two w2 ⟨1, 12100, ByteArray.empty⟩ ⟨1, 10000, ByteArray.empty⟩)).mono ?_
  rintro e w3 ⟨l, rs3, rfl, hg, hb⟩
  obtain ⟨g3, cap3, rfl, _, hA⟩ := hg.at (by simp)
  have hb03 : Below w.heap.size w w3 := (hb02.alloc hb02.size _).trans (hb.mono (by have := hb02.size; simp; omega))
  have HK := Lib.hid (call_ROUNDUP _ g3 cap3 12100 1 (.num 13000) w3 (hG.below hb03) (hT.below hb03) hA (by intro v hv; simp at hv; rcases hv with rfl | rfl <;> simp [V.short]) rfl (by rfl) (by omega) (by omega) awake_up)
  clear hg hA hb hb02
  simp only [List.length_cons, List.length_nil, Nat.reduceAdd]
  go_wp2_with (first | (go_at_call 13; fail))
  go_at_call 13
  refine HK.out.mono ?_
  rintro e w4 ⟨rfl, hb4⟩
  have hb04 : Below w.heap.size w w4 := hb03.trans (hb4.mono hb03.size)
  clear hb03 hb4 HK
  go_wp2_with (first | (go_at_call 37; fail))
  go_at_call 37
  refine (tell_any _ _).mono ?_
  rintro e w5 ⟨rfl, hb5⟩
  have hb05 : Below w.heap.size w w5 := hb04.trans (hb5.mono hb04.size)
  clear hb04 hb5
  simp only [V.tell]
  go_wp2_with (first | (go_at_call 37; fail))
  go_at_call 37
  refine (tell_any _ _).mono ?_
  rintro e w6 ⟨rfl, hb6⟩
  have hb06 : Below w.heap.size w w6 := hb05.trans (hb6.mono hb05.size)
  clear hb05 hb6
  simp only [V.tell]
  go_wp2
  go_ret
  exact ⟨rfl, hb06⟩
end Go.Proofs.YtkobkeopajohiaaGreatDoor
