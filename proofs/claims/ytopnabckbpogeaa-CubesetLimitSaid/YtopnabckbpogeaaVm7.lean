/-
  A library of the claim's own, part 7 of 7: a reckoner over abstract values and objects for the model's code, and that it is sound. No statement of a program stands here.
-/
import Derived.Test.YtopnabckbpogeaaVm6
set_option linter.all false
/-
  The library Vm, part Af: two objects change places.
-/
namespace Go.Vm

/-- the number of an object after the change of i and j -/
def swp (i j k : Nat) : Nat := match Nat.beq k i with | true => j | false => match Nat.beq k j with | true => i | false => k
theorem beq_dec {a b : Nat} : Nat.beq a b = decide (a = b) := by
  by_cases h : a = b
  · subst h; simp
  · rw [decide_eq_false h]
    cases e : Nat.beq a b with
    | false => rfl
    | true => exact absurd (Nat.eq_of_beq_eq_true e) h
theorem swp_eq {i j k : Nat} : swp i j k = if k = i then j else if k = j then i else k := by
  unfold swp
  rw [beq_dec, beq_dec]
  by_cases h : k = i
  · simp [h]
  · rw [if_neg h, decide_eq_false h]
    by_cases h2 : k = j
    · rw [if_pos h2, decide_eq_true h2]
    · rw [if_neg h2, decide_eq_false h2]
theorem swp_swp {i j k : Nat} : swp i j (swp i j k) = k := by
  rw [swp_eq, swp_eq]
  by_cases h1 : k = i
  · subst h1; by_cases h2 : j = k <;> simp [h2]
  · by_cases h2 : k = j
    · subst h2; simp [h1]
    · simp [h1, h2]

mutual
/-- the objects' numbers changed by f -/
def V.rn (q : Nat → Nat) : V → V
  | .buf i v off n sz => .buf (q i) v off n sz
  | .ptr i v off => .ptr (q i) v off
  | .mp i => .mp (q i)
  | .agg vs => .agg (rns q vs)
  | .tup vs => .tup (rns q vs)
  | .sl b cs n => .sl b (rns q cs) n
  | .fp cs => .fp (rns q cs)
  | .ifc t v => .ifc t (v.rn q)
  | .fn f a b => .fn f (rns q a) (rns q b)
  | .opt g v => .opt g (v.rn q)
  | .int a b => .int a b
  | .bool b => .bool b
  | .str s => .str s
  | .nilp => .nilp
  | .nili => .nili
  | .nilf => .nilf
  | .nilm => .nilm
  | .dead => .dead
def rns (q : Nat → Nat) : List V → List V
  | [] => []
  | x :: xs => x.rn q :: rns q xs
end
def Ob.rn (q : Nat → Nat) : Ob → Ob
  | .cells v l => .cells v (rns q l)
  | .map es => .map (es.map fun e => (e.1.rn q, e.2.rn q))
  | .unborn => .unborn
  | .dead => .dead
def rnOs (q : Nat → Nat) : List Ob → List Ob
  | [] => []
  | o :: os => o.rn q :: rnOs q os

theorem rns_length {q : Nat → Nat} : ∀ (xs : List V), (rns q xs).length = xs.length
  | [] => rfl
  | _ :: xs => by simp [rns, rns_length xs]
theorem rnOs_length {q : Nat → Nat} : ∀ (xs : List Ob), (rnOs q xs).length = xs.length
  | [] => rfl
  | _ :: xs => by simp [rnOs, rnOs_length xs]
theorem rnOs_get {q : Nat → Nat} : ∀ (xs : List Ob) (i : Nat), (rnOs q xs)[i]? = (xs[i]?).map (Ob.rn q)
  | [], i => by simp [rnOs]
  | x :: xs, 0 => by simp [rnOs]
  | x :: xs, i + 1 => by simp [rnOs, rnOs_get xs i]
theorem rns_map {q : Nat → Nat} : ∀ (xs : List V), rns q xs = xs.map (V.rn q)
  | [] => rfl
  | x :: xs => by simp [rns, rns_map xs]

mutual
theorem V.rn_bel {q : Nat → Nat} : ∀ (x : V), x.bel 0 = true → x.rn q = x
  | .buf i v off n sz, h => by simp [V.bel] at h
  | .ptr i v off, h => by simp [V.bel] at h
  | .mp i, h => by simp [V.bel] at h
  | .agg vs, h => by simp only [V.bel] at h; simp only [V.rn, rns_bel vs h]
  | .tup vs, h => by simp only [V.bel] at h; simp only [V.rn, rns_bel vs h]
  | .sl b cs n, h => by simp only [V.bel] at h; simp only [V.rn, rns_bel cs h]
  | .fp cs, h => by simp only [V.bel] at h; simp only [V.rn, rns_bel cs h]
  | .ifc t v, h => by simp only [V.bel] at h; simp only [V.rn, V.rn_bel v h]
  | .fn f a b, h => by simp only [V.bel, Bool.and_eq_true] at h; simp only [V.rn, rns_bel a h.1, rns_bel b h.2]
  | .opt g v, h => by simp only [V.bel] at h; simp only [V.rn, V.rn_bel v h]
  | .int a b, _ => by simp only [V.rn]
  | .bool b, _ => by simp only [V.rn]
  | .str s, _ => by simp only [V.rn]
  | .nilp, _ => by simp only [V.rn]
  | .nili, _ => by simp only [V.rn]
  | .nilf, _ => by simp only [V.rn]
  | .nilm, _ => by simp only [V.rn]
  | .dead, _ => by simp only [V.rn]
theorem rns_bel {q : Nat → Nat} : ∀ (xs : List V), belAll 0 xs = true → rns q xs = xs
  | [], _ => rfl
  | x :: xs, h => by
    simp only [belAll, Bool.and_eq_true] at h
    simp only [rns, V.rn_bel x h.1, rns_bel xs h.2]
end
theorem rns_ok {q : Nat → Nat} {xs : List V} (h : belAll 0 xs = true) : rns q xs = xs := rns_bel xs h

section
variable {P : Program} {O : Nat → Prop} {β β' : List Pl} {w w' : World}

mutual
theorem VR.rn {own : Nat → Prop} {q : Nat → Nat} (hf : ∀ i, β'[q i]? = β[i]?) : ∀ (x : V) (v : Value), VR own w β x v → VR own w β' (x.rn q) v
  | .buf i vr off n sz, v, h => by
    simp only [V.rn, VR] at h ⊢
    rw [hf]; exact h
  | .ptr i vr off, v, h => by
    simp only [V.rn, VR] at h ⊢
    rw [hf]; exact h
  | .mp i, v, h => by
    simp only [V.rn, VR] at h ⊢
    rw [hf]; exact h
  | .agg vs, v, h => by
    simp only [V.rn, VR] at h ⊢
    obtain ⟨l, h1, h2⟩ := h
    exact ⟨l, h1, VRs.rn hf vs l h2⟩
  | .tup vs, v, h => by
    simp only [V.rn, VR] at h ⊢
    obtain ⟨l, h1, h2⟩ := h
    exact ⟨l, h1, VRs.rn hf vs l h2⟩
  | .sl b cs n, v, h => by
    simp only [V.rn, VR] at h ⊢
    refine h.imp (fun h => h) ?_
    rintro ⟨h0, b, off, cap, l, h1, h2, h3, h4, h5, h6⟩
    exact ⟨h0, b, off, cap, l, h1, h2, h3, h4, h5, VRs.rn hf cs l h6⟩
  | .fp cs, v, h => by
    simp only [V.rn, VR] at h ⊢
    obtain ⟨b, off, l, h1, h3, h4, h5, h6⟩ := h
    exact ⟨b, off, l, h1, h3, h4, h5, VRs.rn hf cs l h6⟩
  | .ifc t x, v, h => by
    simp only [V.rn, VR] at h ⊢
    obtain ⟨y, h1, h2⟩ := h
    exact ⟨y, h1, VR.rn hf x y h2⟩
  | .fn f a b, v, h => by
    simp only [V.rn, VR] at h ⊢
    obtain ⟨la, lb, h1, h2, h3⟩ := h
    exact ⟨la, lb, h1, VRs.rn hf a la h2, VRs.rn hf b lb h3⟩
  | .opt g x, v, h => by
    simp only [V.rn, VR] at h ⊢
    exact ⟨fun hg => VR.rn hf x v (h.1 hg), h.2⟩
  | .int _ _, v, h => by simpa only [V.rn, VR] using h
  | .bool _, v, h => by simpa only [V.rn, VR] using h
  | .str _, v, h => by simpa only [V.rn, VR] using h
  | .nilp, v, h => by simpa only [V.rn, VR] using h
  | .nili, v, h => by simpa only [V.rn, VR] using h
  | .nilf, v, h => by simpa only [V.rn, VR] using h
  | .nilm, v, h => by simpa only [V.rn, VR] using h
  | .dead, v, _ => by simp only [V.rn, VR]
theorem VRs.rn {own : Nat → Prop} {q : Nat → Nat} (hf : ∀ i, β'[q i]? = β[i]?) : ∀ (xs : List V) (vs : List Value), VRs own w β xs vs → VRs own w β' (rns q xs) vs
  | [], [], _ => by simp only [rns, VRs]
  | x :: xs, y :: ys, h => by
    simp only [VRs] at h
    simp only [rns, VRs]
    exact ⟨VR.rn hf x y h.1, VRs.rn hf xs ys h.2⟩
  | [], _ :: _, h => by simp only [VRs] at h
  | _ :: _, [], h => by simp only [VRs] at h
end


end
/-- the objects with i and j changed -/
def swpH (i j : Nat) (H : List Ob) : List Ob := rnOs (swp i j) (setO (setO H i (getO H j)) j (getO H i))

section
variable {P : Program} {O : Nat → Prop} {β β' : List Pl} {w w' : World}
theorem setO_eq : ∀ (H : List Ob) (i : Nat) (o : Ob), setO H i o = H.set i o
  | [], _, _ => rfl
  | _ :: _, 0, _ => rfl
  | x :: xs, i + 1, o => by rw [setO, setO_eq xs i o]; rfl
theorem getO_at : ∀ (H : List Ob) (i : Nat), i < H.length → H[i]? = some (getO H i)
  | x :: xs, 0, _ => rfl
  | x :: xs, i + 1, h => by rw [List.getElem?_cons_succ, getO_at xs i (by simpa using h)]; rfl
theorem set2_get {α : Type} {l : List α} {i j : Nat} {a b : α} (ha : l[i]? = some a) (hb : l[j]? = some b) (k : Nat) : ((l.set i b).set j a)[k]? = l[swp i j k]? := by
  have hi := (List.getElem?_eq_some_iff.1 ha).1
  have hj := (List.getElem?_eq_some_iff.1 hb).1
  rw [swp_eq, List.getElem?_set, List.getElem?_set, List.length_set]
  by_cases h1 : j = k
  · subst h1
    by_cases h2 : j = i
    · subst h2; simp only [if_true, hj]; rw [← ha, hb]
    · simp [hj, h2, ha]
  · have h1' : ¬ k = j := fun e => h1 e.symm
    by_cases h2 : i = k
    · subst h2; simp [h1, hi, hb]
    · have h2' : ¬ k = i := fun e => h2 e.symm
      simp [h1, h1', h2, h2']
theorem Gn.swap {n i j : Nat} {tm : List V} {H : List Ob} (hi : n ≤ i) (hj : n ≤ j) (hi2 : i < H.length) (hj2 : j < H.length) :
    Gn n ⟨tm, H⟩ ⟨rns (swp i j) tm, swpH i j H⟩ := by
  intro O β a w hs
  have hl : β.length = H.length := hs.hp.len
  obtain ⟨pi, hpi⟩ : ∃ p, β[i]? = some p := ⟨_, List.getElem?_eq_getElem (by omega)⟩
  obtain ⟨pj, hpj⟩ : ∃ p, β[j]? = some p := ⟨_, List.getElem?_eq_getElem (by omega)⟩
  have hg := set2_get hpi hpj
  generalize hβ : (β.set i pj).set j pi = β' at hg
  have hf : ∀ k, β'[swp i j k]? = β[k]? := fun k => by rw [hg, swp_swp]
  have hlen : β'.length = β.length := by rw [← hβ]; simp
  have hin : ∀ b, InB β' b ↔ InB β b := by
    intro b
    constructor
    · rintro ⟨k, l, h1, h2⟩; exact ⟨swp i j k, l, by rw [← hg]; exact h1, h2⟩
    · rintro ⟨k, l, h1, h2⟩; exact ⟨swp i j k, l, by rw [hf]; exact h1, h2⟩
  have hown : Own O β' = Own O β := by
    funext b
    exact propext ⟨fun h => h.imp id (hin b).1, fun h => h.imp id (hin b).2⟩
  have hH : ∀ k, (swpH i j H)[k]? = (H[swp i j k]?).map (Ob.rn (swp i j)) := by
    intro k
    rw [swpH, rnOs_get, setO_eq, setO_eq, set2_get (getO_at H i hi2) (getO_at H j hj2)]
  refine ⟨β', ⟨hs.defers, ?_, ?_⟩, ?_⟩
  · rw [hown]; exact VRs.rn hf _ _ hs.tm
  · refine ⟨?_, ?_, ?_, ?_, ?_, hs.hp.old⟩
    · rw [hlen, hl, swpH, rnOs_length, setO_eq, setO_eq, List.length_set, List.length_set]
    · intro k loc o h1 h2
      rw [hg] at h1
      rw [hH] at h2
      cases ho : H[swp i j k]? with
      | none => rw [ho] at h2; cases h2
      | some o' =>
        rw [ho] at h2
        obtain rfl := Option.some.inj h2
        have h0 := hs.hp.ob _ loc o' h1 ho
        rw [hown]
        cases o' with
        | unborn => exact h0
        | dead => exact h0
        | cells ver l =>
          simp only [Ob.rn, ObR, rns_length] at h0 ⊢
          refine Or.imp (fun h => ⟨h.1, by rw [h.2]; rfl⟩) ?_ h0
          rintro ⟨b, base, cs, ty, h1, h2, h3, h4⟩
          exact ⟨b, base, cs, ty, h1, h2, h3, VRs.rn hf _ _ h4⟩
        | map es =>
          simp only [Ob.rn, ObR] at h0 ⊢
          obtain ⟨b, en, clock, h1, h2, h3, h4⟩ := h0
          refine ⟨b, en, clock, h1, h2, ?_, ?_⟩
          · have := VRs.rn hf _ _ h3; rw [rns_map, List.map_map] at this; rw [List.map_map]; exact this
          · have := VRs.rn hf _ _ h4; rw [rns_map, List.map_map] at this; rw [List.map_map]; exact this
    · intro x y l l' b h1 h2 h3 h4
      rw [hg] at h1 h2
      have := hs.hp.inj _ _ l l' b h1 h2 h3 h4
      rw [← swp_swp (i := i) (j := j) (k := x), this, swp_swp]
    · intro b h; exact hs.hp.lt b ((hin b).1 h)
    · intro b h; exact hs.hp.apart b ((hin b).1 h)
  · intro β0 w0 h0 he
    refine ⟨he.size, he.keep, he.os, he.tape, he.output, fun b h => he.fresh b ((hin b).1 h), ?_⟩
    intro k l hk
    have hkl := (List.getElem?_eq_some_iff.1 hk).1
    have e : swp i j k = k := by rw [swp_eq, if_neg (by omega), if_neg (by omega)]
    rw [hg, e]
    exact he.loc k l hk
end
end Go.Vm
