/-
  Chapter 45: Format's loop over a strings.Builder: from contracts of the library Vm to the kit's walk, and back.
-/
import Derived.Test.YtlbmbbaefncleaaGreatDoorBdr
import Derived.Test.YtlbmbbaefncleaaGreatDoorShl
set_option linter.unusedVariables false
set_option maxRecDepth 100000
set_option maxHeartbeats 4000000
namespace Go.Proofs.YtlbmbbaefncleaaGreatDoor
open Go.Vm Go.RowKit
def no : Nat → Prop := fun _ => False
def W0 (w : World) : Prop := HR no [] w []
theorem own_no : Own no [] = no := by
 funext b
 refine propext ⟨?_, fun h => .inl h⟩
 rintro (h | ⟨i, l, hi, _⟩)
 ·exact h
 ·simp at hi
theorem W0.of {O : Nat → Prop} {β : List Pl} {w : World} {H : List Ob} (h : HR O β w H) : W0 w :=
 ⟨rfl, fun i loc o hi => by simp at hi, fun i j l l' b hi => by simp at hi, fun b ⟨i, l, hi, _⟩ => by simp at hi, fun b ⟨i, l, hi, _⟩ => by simp at hi, fun b hb => hb.elim, by
  rw [own_no]; exact h.glob.sub fun b hb => hb.elim⟩
theorem ext_below {w w' : World} (h : Ext [] w [] w') : Below w.heap.size w w' := ⟨h.os, h.tape, h.output, h.size, fun k hk => h.keep k hk (fun ⟨i, l, hi, _⟩ => by simp at hi)⟩
theorem below_ext {β : List Pl} {w w' : World} (h : Below w.heap.size w w') (hβ : β = []) : Ext β w β w' := by
 subst hβ
 exact ⟨h.size, fun b hb _ => h.block b hb, h.os, h.tape, h.output, fun _ h => .inl h, fun i l hi => by simp at hi⟩
theorem W0.below {w w' : World} (h : W0 w) (hb : Below w.heap.size w w') : W0 w' :=
 ⟨rfl, fun i loc o hi => by simp at hi, fun i j l l' b hi => by simp at hi, fun b ⟨i, l, hi, _⟩ => by simp at hi, fun b ⟨i, l, hi, _⟩ => by simp at hi, fun b hb => hb.elim, h.glob.ext (below_ext hb rfl)⟩
theorem PC.calls {P : Program} {n : Nat} {args : List V} {v : V} (h : PC P n args v) {w : World} (hw : W0 w) {vals : List Value} (ha : VRs no w [] args vals) :
  Calls P n vals.toArray w fun e w' => ∃ u, e = .returned u ∧ VR no w' [] v u ∧ Below w.heap.size w w' := by
 refine ((h []).2 no [] w vals hw (by rw [own_no]; exact ha)).mono ?_
 rintro e w' ⟨u, β', rfl, g1, g2, g3⟩
 have hb : β' = [] := List.length_eq_zero_iff.1 g1.len
 subst hb
 rw [own_no] at g2
 exact ⟨u, rfl, g2, ext_below g3⟩
theorem PC.ofCalls {P : Program} {n : Nat} {args : List V} {v : V} (hc : ∀ (vals : Array Value) (w : World), (callFunc n vals).run P w = .ok (.enter n vals) w) (ha : belAll 0 args = true) (hv : v.bel 0 = true)
  (h : ∀ (own : Nat → Prop) (w : World) (vals : List Value), W0 w → VRs own w [] args vals → Calls P n vals.toArray w fun e w' => ∃ u, e = .returned u ∧ (∀ own', VR own' w' [] v u) ∧ Below w.heap.size w w') : PC P n args v := by
 have h0 : GCall P n args [] v [] := by
  refine ⟨hc, fun O β w vals hh hva => ?_⟩
  have hb : β = [] := List.length_eq_zero_iff.1 hh.len
  subst hb
  refine (h _ w vals (W0.of hh) hva).mono ?_
  rintro e w' ⟨u, rfl, h1, h2⟩
  have he := below_ext h2 (β := []) rfl
  exact ⟨u, [], rfl, ⟨rfl, fun i loc o hi => by simp at hi, fun i j l l' b hi => by simp at hi, fun b ⟨i, l, hi, _⟩ => by simp at hi, fun b ⟨i, l, hi, _⟩ => by simp at hi, fun b hb => Nat.lt_of_lt_of_le (hh.old b hb) he.size, hh.glob.ext he⟩, h1 _, he⟩
 intro H
 have := GCall.frame h0 ha H
 rw [V.sh_bel v hv, shOs, List.append_nil] at this
 exact this
theorem bld_keep {T e : TypeId} {B b : Nat} {p : Value} {bs : List Value} {w w' : World} (h : Lib.BuilderAt T e B b p bs w) (hk : ∀ k, k < w.heap.size → w'.heap[k]? = w.heap[k]?) : Lib.BuilderAt T e B b p bs w' := by
 have hlt : ∀ (k : Nat) (o : Obj), w.heap[k]? = some o → k < w.heap.size := fun k o ho => (Array.getElem?_eq_some_iff.1 ho).1
 obtain ⟨hB, v, hb, hown, hne⟩ := h
 refine ⟨hB, v, by rw [hk b (hlt _ _ hb)]; exact hb, ⟨hown.1, ?_⟩, hne⟩
 rcases hown.2 with h | ⟨g, cap, cur, hv, hg0, hg, r⟩
 ·exact .inl h
 ·exact .inr ⟨g, cap, cur, hv, hg0, by rw [hk g (hlt _ _ hg)]; exact hg, r⟩
theorem isb_keep {T e : TypeId} {B b : Nat} {bs : List Value} {w w' : World} (h : Lib.IsBuilder T e B b bs w) (hk : ∀ k, k < w.heap.size → w'.heap[k]? = w.heap[k]?) : Lib.IsBuilder T e B b bs w' :=
 h.imp (fun h => bld_keep h hk) (fun h => bld_keep h hk)
end Go.Proofs.YtlbmbbaefncleaaGreatDoor
