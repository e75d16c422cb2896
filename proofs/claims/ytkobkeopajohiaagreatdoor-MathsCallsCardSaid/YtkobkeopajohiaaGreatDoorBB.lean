/-
  FROM A ROW's CONDITIONS TO WHAT THE WALKS ASK: the tables that the row lists read as the program's text lays them; the library's bound holds some number (the world's shape); the wrap that hands both to the contract.
  THE TABLES OF unicode/utf8, FROM A ROW's LIST; the program's types are laid out.
-/
import Derived.Test.YtkobkeopajohiaaGreatDoorCards
import Derived.Test.YtkobkeopajohiaaGreatDoorTie
import Derived.Test.YtkobkeopajohiaaGreatDoorCC
import Derived.ProofKit
import Derived.OpenShut
import Derived.LaidMore
import Derived.Lay
import Derived.SevenTiedAt
import Derived.HandedShaped
import Derived.Stop.Joined
import Derived.Stop.LaidErr
import Derived.Test.YtkobkeopajohiaaGreatDoorVA
import Derived.Lib.LaidU8T
import Derived.Carry
namespace Go.Proofs.YtkobkeopajohiaaGreatDoor
open Go.ChangeShapes Go.WideShapes Go.ChangeAt Go.RowKit

theorem own : ownKnob Tryz.prog.godebug = none := by kernel_rfl

/-- The wrap with a further condition and with the world's shape. -/
theorem wrap {H : Type} {enc : TypeId × Value → H} {a : Assume} {C : Checked} {os : Os} {f : FuncId} {fn : Func} {s : ChangeSpec} {conds : List PathCond} {apart fresh handsOn again : Bool} {X : World → Array Value → Prop}
    (hX : ∀ (w w' : World) (args : Array Value), w.heap = w'.heap → X w args → X w' args)
    (own : ownKnob C.prog.godebug = none) (started : os.Started) (noInit : C.prog.inits.idxOf? f = none) (hfn : C.prog.funcs[f]? = some fn)
    (witness : ∃ (w : World) (tape : Tape) (i : Input), w.os = os ∧ (w.forCall tape i).Shaped C.prog ∧ i.vars = [] ∧ Input.okWide C.prog (w.forCall tape i) .any w.heap.size f i ∧
      ((s.pre enc C.prog fn conds apart (w.forCall tape i).memory i.args ∧ X (w.forCall tape i).memory i.args) ∧ sizedMet enc C.prog fn (OpenSpec.ofChange s) apart (w.forCall tape i).memory i.args) ∧ a.holds C.prog (lone (Frame.enter C.prog f i.args .normal) [] (w.forCall tape i)))
    (contract : ∀ (W : World) (base : Nat) (args : Array Value) (ds gs : List (DataW H)) (before : List MemPlace),
      (∀ (j : Nat) t v, fn.params[j]? = some t → args[j]? = some v → Value.okWide C.prog W .any base t v) →
      DataW.Whole enc C.prog fn.params.toList s.vars apart W args.toList ds gs before →
      (DataW.weightsEach C.prog (fn.params.toList ++ s.plain.varTypes C.prog) (ds ++ gs)).all (· ≤ reachBytes) = true → X W args → W.ShapedOpen C.prog →
      Calls C.prog f args W fun e W' => ∃ v, e = .returned v ∧ s.post enc C.prog fn apart fresh handsOn again W args v W') :
    ReturnsInHanded a C os f .any (fun w args => (s.pre enc C.prog fn conds apart w args ∧ X w args) ∧ sizedMet enc C.prog fn (OpenSpec.ofChange s) apart w args) (s.post enc C.prog fn apart fresh handsOn again) := by
  refine returnsInHanded_of_calls own started noInit witness ?_
  intro w tape i _ hsh _ hok hpre _
  obtain ⟨_, _, _, fn', hfn', _, _, _, _, hval⟩ := hok
  have e : fn' = fn := Option.some.inj (hfn'.symm.trans hfn)
  subst e
  obtain ⟨⟨⟨ds, gs, before, hw, _⟩, hx⟩, hz⟩ := hpre
  have hw' := DataW.Whole.of_heap (w' := w.forCall tape i) (by rfl) hw
  refine (contract (w.forCall tape i) w.heap.size i.args ds gs before hval hw' (hz.weights hw) (hX _ _ _ (by rfl) hx) hsh).mono fun e W' ⟨v, he, hp⟩ => ?_
  subst he
  exact ChangeSpec.post_blind hp

theorem gm_of_shaped {W : World} (h : W.ShapedOpen Tryz.prog) : GM W := Tryz.laysM145.s1_3 W h

theorem gp_of_head {W : World} {rest : List (String × DataW Unit)} (h : laidMet Tryz.prog (("internal/strconv.uint64pow10", Rows.laid_internal_strconv_uint64pow10) :: rest) W) : GP W :=
  Lib.tabIs_of_head (show Tryz.prog.globalNamed "internal/strconv.uint64pow10" = some 6 by kernel_rfl) (show (Tryz.prog.globals[6]?).map (·.type) = some 208 by kernel_rfl) Tryz.underlying208 Tryz.underlying106 (by kernel_rfl) (by kernel_rfl) h

def tensZ : List Int := [1, 10, 100, 1000, 10000, 100000, 1000000, 10000000, 100000000, 1000000000, 10000000000, 100000000000, 1000000000000, 10000000000000, 100000000000000, 1000000000000000, 10000000000000000, 100000000000000000, 1000000000000000000]
theorem tens_eq : (Rows.laid_tabular_deci_tens : DataW Unit) = .slice (lits .u64 tensZ) [] := by rfl
theorem tens_at : ∀ i : Nat, i < 19 → tensZ.getD i 0 = ((10 ^ i : Nat) : Int) := by decide +kernel

theorem lits_inj {k : IntKind} {a b : List Int} (h : (lits k a : List (DataW Unit)) = lits k b) : a = b := by
  induction a generalizing b with
  | nil => cases b with
    | nil => rfl
    | cons y b => simp [lits] at h
  | cons x a ih =>
    cases b with
    | nil => simp [lits] at h
    | cons y b =>
      simp only [lits, List.map_cons, List.cons.injEq, DataW.lit.injEq, Lit.int.injEq, true_and] at h
      rw [h.1, ih h.2]

theorem gt_of_head {W : World} {rest : List (String × DataW Unit)} (h : laidMet Tryz.prog (("tabular/deci.tens", Rows.laid_tabular_deci_tens) :: rest) W) : GT W := by
  obtain ⟨ps, ⟨g, t, cs, fuel, p, q, hg, ht, hv, hd, _, _⟩, _, _⟩ := h
  obtain rfl := Option.some.inj ((show Tryz.prog.globalNamed "tabular/deci.tens" = some 0 by kernel_rfl).symm.trans hg)
  obtain rfl := Option.some.inj ((show (Tryz.prog.globals[0]?).map (·.type) = some 176 by kernel_rfl).symm.trans ht)
  rcases open_ints Tryz.underlying176 Tryz.underlying106 (by kernel_rfl) hd with ⟨_, hx⟩ | ⟨a, len, cap, zs, hcs, _, hl, _, hz, hx, hcell, _⟩
  · rw [tens_eq] at hx; simp at hx
  · rw [tens_eq] at hx
    simp only [Prod.mk.injEq, DataW.slice.injEq] at hx
    have h1 : zs.take len = tensZ := lits_inj hx.1.1.symm
    have h2 : zs.drop len = [] := by
      have := hx.1.2
      cases hzd : zs.drop len with
      | nil => rfl
      | cons y l => rw [hzd] at this; simp [lits] at this
    have h3 : zs = tensZ := by have := List.take_append_drop len zs; rw [h1, h2, List.append_nil] at this; exact this.symm
    have hl19 : tensZ.length = 19 := rfl
    have hlen : len = 19 := by
      have e1 := congrArg List.length h1
      have e2 := congrArg List.length h2
      rw [List.length_take, h3, hl19] at e1
      rw [List.length_drop, h3, hl19, List.length_nil] at e2
      rw [h3, hl19] at hz
      split at hz <;> omega
    subst h3 hlen
    obtain ⟨b, off, rfl, hc⟩ := ints_at hcell (by decide)
    have hvar := World.var?_cell hg hv 0
    have hc0 : W.cell? ⟨0, 0, none⟩ = some (.slice (some ⟨b, off, none⟩) 19 cap) := by
      rw [hvar]
      have : cs.toList[0]? = some (.slice (some ⟨b, off, none⟩) 19 cap) := by rw [hcs]; rfl
      simpa using this
    refine ⟨b, off, cap, hc0, lt_of_cell (hc 0 (by decide)), fun i hi => ?_⟩
    rw [hc i hi, tens_at i hi]
end Go.Proofs.YtkobkeopajohiaaGreatDoor
namespace Go.Proofs
open Go.Shelf Go.Lib
theorem Tryz.u8types : U8Types Tryz.prog Tryz.lays197_ren := { t5 := Tryz.underlying5, t119 := Tryz.underlying200, t138 := Tryz.underlying202, t139 := Tryz.underlying203 }
theorem Tryz.u8extra : U8Extra Tryz.prog Tryz.lays197_ren := { n3 := by kernel_rfl, n4 := by kernel_rfl, y3 := by kernel_rfl, y4 := by kernel_rfl, c5 := by kernel_rfl, c119 := by kernel_rfl, c138 := by kernel_rfl }
theorem Tryz.laidOut : laidOutB Tryz.prog = true := by kernel_rfl
end Go.Proofs
namespace Go.Proofs.YtkobkeopajohiaaGreatDoor
open Go.RowKit Go.Lib
theorem first_eq : (Rows.laid_unicode_utf8_first : DataW Unit) = firstData := by kernel_rfl
theorem accept_eq : (Rows.laid_unicode_utf8_acceptRanges : DataW Unit) = acceptData := by kernel_rfl
theorem gu_of_laid {W : World} {l : List (String × DataW Unit)} (h : laidMet Tryz.prog l W) (h3 : ("unicode/utf8.first", Rows.laid_unicode_utf8_first) ∈ l) (h4 : ("unicode/utf8.acceptRanges", Rows.laid_unicode_utf8_acceptRanges) ∈ l) :
    Lib.Utf8Tabs 4 5 W :=
  utf8Tabs_of_readsT Tryz.u8types Tryz.u8extra (first_eq ▸ laidMet.reads h h3) (accept_eq ▸ laidMet.reads h h4)
theorem six_lt {W : World} (h : Lib.Utf8Tabs 4 5 W) : 5 < W.heap.size := lt_of_cell (h.2 0 (by decide)).1
end Go.Proofs.YtkobkeopajohiaaGreatDoor
