/- What can be read as data reads by the kinds: from a law's argument to the kinds' K. Conditions: none. -/
import Derived.Test.YtcidbencoebfaaaDoorWd
import Derived.DataReads
import Derived.ChangeArms
import Derived.ChangeReads
import Derived.ReadAgain
import Derived.WalkKit
import Derived.ProofKit
import Derived.OpenShut
import Derived.ShutString
import Derived.ChangeOld
import Derived.SizedLaws
namespace Go.Proofs.YtcidbencoebfaaaDoor.Wd
open Go.RowKit
set_option linter.unusedVariables false
set_option linter.unusedSimpArgs false
def Opens {α : Type} (P : Program) (t : TypeId) (d : Rp α) (R : α → Prop) : Prop :=
  ∀ (H : Type) (enc : TypeId × Value → H) (w : World) (fuel : Nat) (cs : List Value) (x : DataW H × List MemPlace), DataW.trod enc P w 0 (fun _ => true) true fuel t cs = some x → ∃ a, d.K w a cs ∧ R a
def Any {α : Type} (_ : α) : Prop := True
theorem opens_byte {P : Program} {t : TypeId} (ht : P.underlying t = some (.int .u8)) : Opens P t Rp.byte (fun n => (Lit.int .u8 n).wf = true) := by
  intro H enc w fuel cs x h
  obtain ⟨n, rfl, _, hw⟩ := DataW.trod_int ht h
  exact ⟨n, rfl, hw⟩
theorem list_of {α : Type} {p : Nat → α → Prop} : ∀ (n : Nat), (∀ i, i < n → ∃ x, p i x) → ∃ xs : List α, xs.length = n ∧ ∀ i x, xs[i]? = some x → p i x
  | 0, _ => ⟨[], rfl, fun i x h => by simp at h⟩
  | n + 1, h => by
    obtain ⟨xs, hl, hx⟩ := list_of n (fun i hi => h i (by omega))
    obtain ⟨y, hy⟩ := h n (by omega)
    refine ⟨xs ++ [y], by simp [hl], fun i x hi => ?_⟩
    rcases Nat.lt_or_ge i xs.length with hlt | hge
    · rw [List.getElem?_append_left hlt] at hi; exact hx i x hi
    · rw [List.getElem?_append_right hge] at hi
      rcases hk : i - xs.length with _ | m
      · rw [hk] at hi; simp at hi; subst hi; have : i = n := by omega
        subst this; exact hy
      · rw [hk] at hi; simp at hi
theorem plain_add (b o i : Nat) : (⟨b, o, none⟩ : Addr).add i = ⟨b, o + i, none⟩ := by unfold Addr.add; split <;> simp_all
theorem spot_none {a : Addr} {w : World} {v : Value} (h : w.cell? a = some v) : a.spot = none := by
  obtain ⟨b, o, s⟩ := a
  cases s with
  | none => rfl
  | some z => unfold World.cell? at h; split at h <;> simp_all
theorem add_zero' (a : Addr) : a.add 0 = a := by unfold Addr.add; simp
theorem opens_slice {α : Type} {P : Program} {t e e' : TypeId} {d : Rp α} {R : α → Prop} (ht : P.underlying t = some (.slice e)) (hsz : P.cellsOf e = d.sz) (hpos : 0 < d.sz) (ho : Opens P e d R) : Opens P t (Rp.slice e' d) (fun xs => ∀ x ∈ xs, R x) := by
  intro H enc w fuel cs x h
  cases fuel with
  | zero => simp [DataW.trod] at h
  | succ n =>
    unfold DataW.trod at h
    rw [ht] at h
    split at h <;> simp_all only [Option.some.injEq, TypeDesc.slice.injEq, reduceCtorEq]
    · exact ⟨[], ⟨none, 0, rfl, Nat.le_refl _, by simp, fun h => absurd rfl h⟩, fun x hx => by cases hx⟩
    · rename_i e2 a len cap he
      subst he
      split at h
      · rename_i hc
        simp only [Option.map_eq_some_iff, Option.bind_eq_some_iff] at h
        obtain ⟨elems, hel, rest, hrest, rfl⟩ := h
        have hlen : elems.length = len := by simpa using mapM_some_length hel
        have each : ∀ i, i < len → ∃ y : α, (∃ ci, w.cells? 0 (a.add (i * d.sz)) d.sz = some ci ∧ d.K w y ci) ∧ R y := by
          intro i hi
          have h1 := mapM_some_get hel i i (by simp [hi])
          rw [List.getElem?_eq_getElem (by omega)] at h1
          simp only [Option.bind_eq_some_iff] at h1
          obtain ⟨ci, hci, hy⟩ := h1
          obtain ⟨y, hk, hr⟩ := ho H enc w n ci _ hy
          exact ⟨y, ⟨ci, hci, hk⟩, hr⟩
        obtain ⟨xs, hxl, hxs⟩ := list_of len each
        subst hxl
        refine ⟨xs, ⟨some a, cap, rfl, hc.2.1, by have := hc.2.1; have := hc.2.2; simp only [maxLen] at this; omega, fun hne => ?_⟩, fun x hx => ?_⟩
        · have hp : 0 < xs.length := List.length_pos_iff.2 hne
          have hsp : a.spot = none := by
            obtain ⟨⟨ci, hci, hk⟩, _⟩ := hxs 0 _ (List.getElem?_eq_getElem hp)
            obtain ⟨_, hl, hcc⟩ := World.cells?_some hci
            have h0 := hcc 0 hpos
            rw [List.getElem?_eq_getElem (by omega), Nat.zero_mul, add_zero', add_zero'] at h0
            exact spot_none h0
          refine ⟨a.block, a.off, by obtain ⟨b, o, s⟩ := a; simp at hsp; rw [hsp], fun i x hx => ?_⟩
          obtain ⟨⟨ci, hci, hk⟩, _⟩ := hxs i x hx
          obtain ⟨_, hl, hcc⟩ := World.cells?_some hci
          refine ⟨ci, hk, fun j u hj => ?_⟩
          have hjl : j < d.sz := by rw [← hl]; exact (List.getElem?_eq_some_iff.1 hj).1
          have h0 := hcc j hjl
          rw [hj] at h0
          obtain ⟨b, o, s⟩ := a
          simp at hsp
          subst hsp
          rw [plain_add, plain_add] at h0
          exact h0
        · obtain ⟨i, hi⟩ := List.mem_iff_getElem?.1 hx
          exact (hxs i x hi).2
      · cases h

theorem open_cell {α : Type} {P : Program} {t e : TypeId} {d : Rp α} {R : α → Prop} {H : Type} {enc : TypeId × Value → H} {w : World} {r : Reach} {b0 : Nat} {v : Value} {x : DataW H} {ps : List MemPlace} (ht : P.underlying t = some (.slice e)) (ho : Opens P t d R)
    (hv : Value.okWide P w r b0 t v) (h : DataW.Trod enc P w 0 (fun _ => true) true t v x ps) : ∃ a : α, d.K w a [v] ∧ R a := by
  obtain ⟨fuel, hf⟩ := h
  obtain ⟨a, ha, ra⟩ := ho H enc w fuel _ _ hf
  obtain ⟨A, n, c, rfl⟩ := WideShapes.okWide_slice ht hv
  exact ⟨a, ha, ra⟩
end Go.Proofs.YtcidbencoebfaaaDoor.Wd

