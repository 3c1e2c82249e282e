/-
  A library of the claim's own, part 1 of 6: a reckoner over abstract values and objects for the model's code, and that it is sound. No statement of a program stands here.
-/
import Derived.Below
import Derived.Orders
import Derived.Deep.LoopGhost
import Derived.Laws.StructEq
import Derived.Laws.CopyRow
import Derived.Laws.Rows
import Derived.Laws.Cells
import Derived.Laws.Append
import Derived.Laws.AppendOwn
import Derived.Laws.MakeOwn
import Derived.Laws.Slices
import Derived.ProofKit
set_option linter.all false
namespace Go.Vm
inductive V where
 | int (k : IntKind) (n : Int)
 | bool (b : Bool)
 | str (s : List UInt8)
 | nilp | nili | nilf | nilm
 | agg (vs : List V)
 | tup (vs : List V)
 | sl (isnil : Bool) (cells : List V) (len : Nat)
 | fp (cells : List V)
 | buf (id ver off len sz : Nat)
 | ptr (id ver off : Nat)
 | mp (id : Nat)
 | ifc (t : TypeId) (v : V)
 | fn (f : Fn) (a b : List V)
 | opt (g : Bool) (v : V)
 | dead
 deriving Inhabited
inductive Ob where
 | unborn | dead
 | cells (ver : Nat) (l : List V)
 | map (es : List (V × V))
 deriving Inhabited
inductive Pl where
 | unborn | dead
 | nilb (ver : Nat)
 | blk (b base n ver : Nat)
 | mapb (b : Nat)
 deriving Inhabited
def Pl.block? : Pl → Option Nat
 | .blk b _ _ _ => some b
 | .mapb b => some b
 | _ => none
def InB (β : List Pl) (b : Nat) : Prop := ∃ (i : Nat) (loc : Pl), β[i]? = some loc ∧ loc.block? = some b
def Own (O : Nat → Prop) (β : List Pl) (b : Nat) : Prop := O b ∨ InB β b
def CellsAt (w : World) (b off : Nat) (l : List Value) : Prop := ∀ i v, l[i]? = some v → w.cell? ⟨b, off + i, none⟩ = some v
def BufR (n0 : Option Pl) (ver off len sz : Nat) (v : Value) : Prop :=
 match n0 with
 | some .dead => True
 | some (.nilb ver') => ver ≤ ver' ∧ (ver = ver' → v = .slice none 0 0 ∧ off = 0 ∧ len = 0)
 | some (.blk b base n ver') => ver ≤ ver' ∧ (ver = ver' → ∃ a cap, v = .slice (some a) len cap ∧ len ≤ cap ∧ (∃ o, a = ⟨b, o, none⟩) ∧ (cap ≠ 0 → a = ⟨b, base + off, none⟩) ∧ base + off + cap * sz ≤ n)
 | _ => False
def PtrR (n0 : Option Pl) (ver off : Nat) (v : Value) : Prop :=
 match n0 with
 | some .dead => True
 | some (.nilb ver') => ver < ver'
 | some (.blk b base _ ver') => ver ≤ ver' ∧ (ver = ver' → v = .pointer (some ⟨b, base + off, none⟩))
 | _ => False
def MapR (n0 : Option Pl) (v : Value) : Prop :=
 match n0 with
 | some .dead => True
 | some (.mapb b) => v = .map (some b)
 | _ => False
mutual
def VR (own : Nat → Prop) (w : World) (β : List Pl) : V → Value → Prop
 | .int k n, v => v = .int k n
 | .bool b, v => v = .bool b
 | .str s, v => v = .string ⟨s.toArray⟩
 | .nilp, v => v = .pointer none
 | .nili, v => v = .nilIface
 | .nilf, v => v = .nilFunc
 | .nilm, v => v = .map none
 | .agg vs, v => ∃ l : List Value, v = .agg l.toArray ∧ VRs own w β vs l
 | .tup vs, v => ∃ l : List Value, v = .tuple l.toArray ∧ VRs own w β vs l
 | .sl isnil cells len, v => (∃ a, v = .slice a 0 0 ∧ len = 0 ∧ (isnil = true → a = none)) ∨
   (isnil = false ∧ ∃ b off cap l, v = .slice (some ⟨b, off, none⟩) len cap ∧ len ≤ cap ∧ b < w.heap.size ∧ ¬ own b ∧ CellsAt w b off l ∧ VRs own w β cells l)
 | .fp cells, v => ∃ b off l, v = .pointer (some ⟨b, off, none⟩) ∧ b < w.heap.size ∧ ¬ own b ∧ CellsAt w b off l ∧ VRs own w β cells l
 | .buf id ver off len sz, v => (∃ a c, v = .slice a len c ∧ len ≤ c ∧ (len ≠ 0 → a.isSome = true)) ∧ BufR β[id]? ver off len sz v
 | .ptr id ver off, v => (∃ a, v = .pointer (some a)) ∧ PtrR β[id]? ver off v
 | .mp id, v => (∃ r, v = .map (some r)) ∧ MapR β[id]? v
 | .ifc t x, v => ∃ y, v = .iface t y ∧ VR own w β x y
 | .fn f a b, v => ∃ la lb : List Value, v = .func f la.toArray lb.toArray ∧ VRs own w β a la ∧ VRs own w β b lb
 | .opt g x, v => (g = true → VR own w β x v) ∧ (g = false → v = undef)
 | .dead, _ => True
def VRs (own : Nat → Prop) (w : World) (β : List Pl) : List V → List Value → Prop
 | [], [] => True
 | x :: xs, y :: ys => VR own w β x y ∧ VRs own w β xs ys
 | _, _ => False
end
def Pl.le (l : Pl) (l' : Option Pl) : Prop :=
 match l with
 | .unborn => True
 | .dead => l' = some .dead
 | .nilb v => match l' with | some .dead => True | some (.nilb v') => v ≤ v' | some (.blk _ _ _ v') => v < v' | _ => False
 | .blk b base n v => match l' with | some .dead => True | some (.nilb v') => v < v' | some (.blk b' base' n' v') => v < v' ∨ (v = v' ∧ b = b' ∧ base = base' ∧ n = n') | _ => False
 | .mapb b => l' = some .dead ∨ l' = some (.mapb b)
structure Ext (β : List Pl) (w : World) (β' : List Pl) (w' : World) : Prop where
 size : w.heap.size ≤ w'.heap.size
 keep : ∀ b, b < w.heap.size → ¬ InB β b → w'.heap[b]? = w.heap[b]?
 os : w'.os = w.os
 tape : w'.tape = w.tape
 output : w'.output = w.output
 fresh : ∀ b, InB β' b → InB β b ∨ w.heap.size ≤ b
 loc : ∀ (i : Nat) (l : Pl), β[i]? = some l → l.le β'[i]?
theorem Pl.le_refl (l : Pl) : l.le (some l) := by
 cases l <;> simp [Pl.le]
theorem Ext.refl (β : List Pl) (w : World) : Ext β w β w where
 size := Nat.le_refl _
 keep := fun _ _ _ => rfl
 os := rfl
 tape := rfl
 output := rfl
 fresh := fun _ h => .inl h
 loc := fun i l h => by rw [h]; exact l.le_refl
theorem Pl.le_trans {l : Pl} {l' : Option Pl} {l'' : Option Pl} (h : l.le l') (h' : ∀ x, l' = some x → x.le l'') : l.le l'' := by
 cases l with
 | unborn => trivial
 | dead => simp only [Pl.le] at h ⊢; subst h; exact h' _ rfl
 | mapb b =>
  simp only [Pl.le] at h ⊢
  rcases h with h | h <;> subst h <;> have := h' _ rfl <;> simp only [Pl.le] at this
  ·exact .inl this
  ·exact this
 | nilb v =>
  cases l' with
  | none => exact h.elim
  | some x =>
   have h2 := h' x rfl
   cases x <;> simp only [Pl.le] at h h2 ⊢
   ·subst h2; trivial
   ·cases l'' with
    | none => exact h2.elim
    | some y => cases y <;> simp only at h2 ⊢ <;> omega
   ·cases l'' with
    | none => exact h2.elim
    | some y => cases y <;> simp only at h2 ⊢ <;> omega
 | blk b base n v =>
  cases l' with
  | none => exact h.elim
  | some x =>
   have h2 := h' x rfl
   cases x <;> simp only [Pl.le] at h h2 ⊢
   ·subst h2; trivial
   ·cases l'' with
    | none => exact h2.elim
    | some y => cases y <;> simp only at h2 ⊢ <;> omega
   ·cases l'' with
    | none => exact h2.elim
    | some y => cases y <;> simp only at h2 ⊢ <;> omega
theorem Ext.trans {β β' β'' : List Pl} {w w' w'' : World} (h : Ext β w β' w') (h' : Ext β' w' β'' w'') : Ext β w β'' w'' where
 size := Nat.le_trans h.size h'.size
 keep := fun b hb hn => by
  rw [h'.keep b (Nat.lt_of_lt_of_le hb h.size) ?_, h.keep b hb hn]
  intro hi
  rcases h.fresh b hi with h1 | h1
  ·exact hn h1
  ·omega
 os := h'.os.trans h.os
 tape := h'.tape.trans h.tape
 output := h'.output.trans h.output
 fresh := fun b hb => by
  rcases h'.fresh b hb with h1 | h1
  ·exact h.fresh b h1
  ·exact .inr (Nat.le_trans h.size h1)
 loc := fun i l hl => Pl.le_trans (h.loc i l hl) (fun x hx => h'.loc i x hx)
theorem CellsAt.keep {w w' : World} {b off : Nat} {l : List Value} (h : CellsAt w b off l) (hk : w'.heap[b]? = w.heap[b]?) : CellsAt w' b off l := by
 intro i v hv
 have := h i v hv
 simp only [World.cell?] at this ⊢
 rw [hk]; exact this
theorem Own.back {O : Nat → Prop} {β β' : List Pl} {w w' : World} (he : Ext β w β' w') {b : Nat} (hb : b < w.heap.size) (hn : ¬ Own O β b) : ¬ Own O β' b := by
 rintro (h | h)
 ·exact hn (.inl h)
 ·rcases he.fresh b h with h1 | h1
  ·exact hn (.inr h1)
  ·omega
mutual
theorem VR.ext {O : Nat → Prop} {β β' : List Pl} {w w' : World} (he : Ext β w β' w') : ∀ (x : V) (v : Value), VR (Own O β) w β x v → VR (Own O β') w' β' x v
 | .int k n, v, h => by simpa only [VR] using h
 | .bool b, v, h => by simpa only [VR] using h
 | .str s, v, h => by simpa only [VR] using h
 | .nilp, v, h => by simpa only [VR] using h
 | .nili, v, h => by simpa only [VR] using h
 | .nilf, v, h => by simpa only [VR] using h
 | .nilm, v, h => by simpa only [VR] using h
 | .agg vs, v, h => by
  simp only [VR] at h ⊢
  obtain ⟨l, h1, h2⟩ := h
  exact ⟨l, h1, VRs.ext he vs l h2⟩
 | .tup vs, v, h => by
  simp only [VR] at h ⊢
  obtain ⟨l, h1, h2⟩ := h
  exact ⟨l, h1, VRs.ext he vs l h2⟩
 | .sl isnil cells len, v, h => by
  simp only [VR] at h ⊢
  refine h.imp id ?_
  rintro ⟨h0, b, off, cap, l, h1, h2, h3, h4, h5, h6⟩
  exact ⟨h0, b, off, cap, l, h1, h2, Nat.lt_of_lt_of_le h3 he.size, Own.back he h3 h4, h5.keep (he.keep b h3 (fun hi => h4 (.inr hi))), VRs.ext he cells l h6⟩
 | .fp cells, v, h => by
  simp only [VR] at h ⊢
  obtain ⟨b, off, l, h1, h3, h4, h5, h6⟩ := h
  exact ⟨b, off, l, h1, Nat.lt_of_lt_of_le h3 he.size, Own.back he h3 h4, h5.keep (he.keep b h3 (fun hi => h4 (.inr hi))), VRs.ext he cells l h6⟩
 | .buf id ver off len sz, v, h => by
  simp only [VR] at h ⊢
  refine ⟨h.1, ?_⟩
  replace h := h.2
  cases hl : β[id]? with
  | none => rw [hl] at h; exact h.elim
  | some l =>
   rw [hl] at h
   have hle := he.loc id l hl
   cases l with
   | unborn => exact h.elim
   | mapb b => exact h.elim
   | dead => simp only [Pl.le] at hle; rw [hle]; trivial
   | nilb v1 =>
    simp only [Pl.le] at hle
    simp only [BufR] at h
    cases hl' : β'[id]? with
    | none => rw [hl'] at hle; exact hle.elim
    | some l' =>
     rw [hl'] at hle
     cases l' with
     | unborn => exact hle.elim
     | mapb b => exact hle.elim
     | dead => trivial
     | nilb v2 =>
      simp only [BufR] at hle ⊢
      exact ⟨by omega, fun hv => h.2 (by omega)⟩
     | blk b base n v2 =>
      simp only [BufR] at hle ⊢
      exact ⟨by omega, fun hv => by omega⟩
   | blk b base n v1 =>
    simp only [Pl.le] at hle
    simp only [BufR] at h
    cases hl' : β'[id]? with
    | none => rw [hl'] at hle; exact hle.elim
    | some l' =>
     rw [hl'] at hle
     cases l' with
     | unborn => exact hle.elim
     | mapb b => exact hle.elim
     | dead => trivial
     | nilb v2 =>
      simp only [BufR] at hle ⊢
      exact ⟨by omega, fun hv => by omega⟩
     | blk b' base' n' v2 =>
      simp only [BufR] at hle ⊢
      refine ⟨by omega, fun hv => ?_⟩
      rcases hle with hle | ⟨e1, rfl, rfl, rfl⟩
      ·omega
      ·exact h.2 (by omega)
 | .ptr id ver off, v, h => by
  simp only [VR] at h ⊢
  refine ⟨h.1, ?_⟩
  replace h := h.2
  cases hl : β[id]? with
  | none => rw [hl] at h; exact h.elim
  | some l =>
   rw [hl] at h
   have hle := he.loc id l hl
   cases l with
   | unborn => exact h.elim
   | mapb b => exact h.elim
   | dead => simp only [Pl.le] at hle; rw [hle]; trivial
   | nilb v1 =>
    simp only [Pl.le] at hle
    simp only [PtrR] at h
    cases hl' : β'[id]? with
    | none => rw [hl'] at hle; exact hle.elim
    | some l' =>
     rw [hl'] at hle
     cases l' with
     | unborn => exact hle.elim
     | mapb b => exact hle.elim
     | dead => trivial
     | nilb v2 =>
      simp only [PtrR] at hle ⊢
      omega
     | blk b base n v2 =>
      simp only [PtrR] at hle ⊢
      exact ⟨by omega, fun hv => by omega⟩
   | blk b base n v1 =>
    simp only [Pl.le] at hle
    simp only [PtrR] at h
    cases hl' : β'[id]? with
    | none => rw [hl'] at hle; exact hle.elim
    | some l' =>
     rw [hl'] at hle
     cases l' with
     | unborn => exact hle.elim
     | mapb b => exact hle.elim
     | dead => trivial
     | nilb v2 =>
      simp only [PtrR] at hle ⊢
      omega
     | blk b' base' n' v2 =>
      simp only [PtrR] at hle ⊢
      refine ⟨by omega, fun hv => ?_⟩
      rcases hle with hle | ⟨e1, rfl, rfl, rfl⟩
      ·omega
      ·exact h.2 (by omega)
 | .mp id, v, h => by
  simp only [VR] at h ⊢
  refine ⟨h.1, ?_⟩
  replace h := h.2
  cases hl : β[id]? with
  | none => rw [hl] at h; exact h.elim
  | some l =>
   rw [hl] at h
   have hle := he.loc id l hl
   cases l with
   | unborn => exact h.elim
   | nilb v => exact h.elim
   | blk _ _ _ _ => exact h.elim
   | dead => simp only [Pl.le] at hle; rw [hle]; trivial
   | mapb b =>
    simp only [Pl.le] at hle
    rcases hle with hle | hle <;> rw [hle]
    ·trivial
    ·exact h
 | .ifc t x, v, h => by
  simp only [VR] at h ⊢
  obtain ⟨y, h1, h2⟩ := h
  exact ⟨y, h1, VR.ext he x y h2⟩
 | .fn f a b, v, h => by
  simp only [VR] at h ⊢
  obtain ⟨la, lb, h1, h2, h3⟩ := h
  exact ⟨la, lb, h1, VRs.ext he a la h2, VRs.ext he b lb h3⟩
 | .opt g x, v, h => by
  simp only [VR] at h ⊢
  exact ⟨fun hg => VR.ext he x v (h.1 hg), h.2⟩
 | .dead, v, h => by simp only [VR]
theorem VRs.ext {O : Nat → Prop} {β β' : List Pl} {w w' : World} (he : Ext β w β' w') : ∀ (xs : List V) (vs : List Value), VRs (Own O β) w β xs vs → VRs (Own O β') w' β' xs vs
 | [], [], _ => by simp only [VRs]
 | x :: xs, y :: ys, h => by
  simp only [VRs] at h ⊢
  exact ⟨VR.ext he x y h.1, VRs.ext he xs ys h.2⟩
 | [], _ :: _, h => by simp only [VRs] at h
 | _ :: _, [], h => by simp only [VRs] at h
end
section lists
variable {own : Nat → Prop} {w : World} {β : List Pl}
theorem VRs.length : ∀ {xs : List V} {vs : List Value}, VRs own w β xs vs → vs.length = xs.length
 | [], [], _ => rfl
 | x :: xs, y :: ys, h => by simp only [VRs] at h; simp [VRs.length h.2]
 | [], _ :: _, h => by simp only [VRs] at h
 | _ :: _, [], h => by simp only [VRs] at h
theorem VRs.get : ∀ {xs : List V} {vs : List Value} {i : Nat} {x : V}, VRs own w β xs vs → xs[i]? = some x → ∃ v, vs[i]? = some v ∧ VR own w β x v
 | [], _, i, x, _, hx => by simp at hx
 | x :: xs, y :: ys, 0, z, h, hx => by
  simp only [VRs] at h
  simp at hx
  subst hx
  exact ⟨y, rfl, h.1⟩
 | x :: xs, y :: ys, i + 1, z, h, hx => by
  simp only [VRs] at h
  simp only [List.getElem?_cons_succ] at hx ⊢
  exact VRs.get h.2 hx
 | _ :: _, [], i, x, h, _ => by simp only [VRs] at h
theorem VRs.of_get : ∀ {xs : List V} {vs : List Value}, vs.length = xs.length → (∀ (i : Nat) x v, xs[i]? = some x → vs[i]? = some v → VR own w β x v) → VRs own w β xs vs
 | [], [], _, _ => by simp only [VRs]
 | x :: xs, y :: ys, h, hx => by
  simp only [VRs]
  exact ⟨hx 0 x y rfl rfl, VRs.of_get (by simpa using h) fun i a b ha hb => hx (i + 1) a b (by simpa using ha) (by simpa using hb)⟩
 | [], _ :: _, h, _ => by simp at h
 | _ :: _, [], h, _ => by simp at h
theorem VRs.append : ∀ {xs ys : List V} {vs us : List Value}, VRs own w β xs vs → VRs own w β ys us → VRs own w β (xs ++ ys) (vs ++ us)
 | [], _, [], _, _, h => h
 | x :: xs, _, y :: ys, _, h, h' => by
  simp only [VRs, List.cons_append] at h ⊢
  exact ⟨h.1, VRs.append h.2 h'⟩
 | [], _, _ :: _, _, h, _ => by simp only [VRs] at h
 | _ :: _, _, [], _, h, _ => by simp only [VRs] at h
theorem VRs.drop : ∀ {xs : List V} {vs : List Value} (n : Nat), VRs own w β xs vs → VRs own w β (xs.drop n) (vs.drop n)
 | _, _, 0, h => by simpa using h
 | [], [], n + 1, h => by simpa using h
 | x :: xs, y :: ys, n + 1, h => by
  simp only [VRs] at h
  simpa using VRs.drop n h.2
 | [], _ :: _, _, h => by simp only [VRs] at h
 | _ :: _, [], _, h => by simp only [VRs] at h
theorem VRs.take : ∀ {xs : List V} {vs : List Value} (n : Nat), VRs own w β xs vs → VRs own w β (xs.take n) (vs.take n)
 | _, _, 0, h => by simp [VRs]
 | [], [], n + 1, h => by simpa using h
 | x :: xs, y :: ys, n + 1, h => by
  simp only [VRs] at h
  simp only [List.take_succ_cons, VRs]
  exact ⟨h.1, VRs.take n h.2⟩
 | [], _ :: _, _, h => by simp only [VRs] at h
 | _ :: _, [], _, h => by simp only [VRs] at h
theorem VRs.set : ∀ {xs : List V} {vs : List Value} {x : V} {v : Value} (n : Nat), VRs own w β xs vs → VR own w β x v → VRs own w β (xs.set n x) (vs.set n v)
 | [], [], _, _, n, h, _ => by simpa using h
 | x :: xs, y :: ys, _, _, 0, h, hx => by
  simp only [VRs, List.set_cons_zero] at h ⊢
  exact ⟨hx, h.2⟩
 | x :: xs, y :: ys, _, _, n + 1, h, hx => by
  simp only [VRs, List.set_cons_succ] at h ⊢
  exact ⟨h.1, VRs.set n h.2 hx⟩
 | [], _ :: _, _, _, _, h, _ => by simp only [VRs] at h
 | _ :: _, [], _, _, _, h, _ => by simp only [VRs] at h
end lists
end Go.Vm
namespace Go.Vm
structure S where
 tm : List V
 hp : List Ob
def ObR (own : Nat → Prop) (w : World) (β : List Pl) (loc : Pl) : Ob → Prop
 | .unborn => loc = .unborn
 | .dead => loc = .dead
 | .cells ver l => (loc = .nilb ver ∧ l = []) ∨
   ∃ b base cs ty, loc = .blk b base cs.size ver ∧ w.heap[b]? = some (.cells cs ty (0, 0)) ∧ base + l.length ≤ cs.size ∧ VRs own w β l ((cs.toList.drop base).take l.length)
 | .map es => ∃ b en clock, loc = .mapb b ∧ w.heap[b]? = some (.map en clock) ∧ VRs own w β (es.map (·.1)) (en.toList.map (·.key)) ∧ VRs own w β (es.map (·.2)) (en.toList.map (·.val))
class GlobTab where
 gl : Nat → Option (List (IntKind × Int))
variable [GlobTab]
def glV (l : List (IntKind × Int)) : List V := l.map fun p => .int p.1 p.2
def GT (own : Nat → Prop) (w : World) : Prop := ∀ g l, GlobTab.gl g = some l → g < w.heap.size ∧ ¬ own g ∧ CellsAt w g 0 (l.map fun p => Value.int p.1 p.2)
structure HR (O : Nat → Prop) (β : List Pl) (w : World) (H : List Ob) : Prop where
 len : β.length = H.length
 ob : ∀ (i : Nat) (loc : Pl) (o : Ob), β[i]? = some loc → H[i]? = some o → ObR (Own O β) w β loc o
 inj : ∀ (i j : Nat) (l l' : Pl) (b : Nat), β[i]? = some l → β[j]? = some l' → l.block? = some b → l'.block? = some b → i = j
 lt : ∀ b, InB β b → b < w.heap.size
 apart : ∀ b, InB β b → ¬ O b
 old : ∀ b, O b → b < w.heap.size
 glob : GT (Own O β) w
theorem GT.ext {O : Nat → Prop} {β β' : List Pl} {w w' : World} (h : GT (Own O β) w) (he : Ext β w β' w') : GT (Own O β') w' := fun g l hg => by
 obtain ⟨h1, h2, h3⟩ := h g l hg
 have hi : ¬ InB β g := fun h => h2 (.inr h)
 refine ⟨Nat.lt_of_lt_of_le h1 he.size, ?_, fun i v hv => ?_⟩
 ·rintro (h | h)
  ·exact h2 (.inl h)
  ·rcases he.fresh g h with h | h
   ·exact hi h
   ·omega
 ·rw [← h3 i v hv]
  simp only [World.cell?, he.keep g h1 hi]
theorem GT.sub {own own' : Nat → Prop} {w : World} (h : GT own w) (hs : ∀ b, own' b → own b) : GT own' w := fun g l hg => by
 obtain ⟨h1, h2, h3⟩ := h g l hg
 exact ⟨h1, fun ho => h2 (hs g ho), h3⟩
theorem GT.nil {own : Nat → Prop} {w : World} (h : GT own w) : GT (Own own []) w := h.sub (by
 rintro b (h | ⟨i, l, hi, _⟩)
 ·exact h
 ·simp at hi)
structure SR (O : Nat → Prop) (β : List Pl) (a : Act) (w : World) (s : S) : Prop where
 defers : a.defers = []
 tm : VRs (Own O β) w β s.tm a.tmps.toList
 hp : HR O β w s.hp
def T (P : Program) (c : Code) (Q : Exit → S → Prop) (s : S) : Prop :=
 ∀ (O : Nat → Prop) (β : List Pl) (a : Act) (w : World), SR O β a w s →
  c.wp P (fun e a' w' => ∃ s' β', Q e s' ∧ SR O β' a' w' s' ∧ Ext β w β' w') a w
def Gh (s s' : S) : Prop :=
 ∀ (O : Nat → Prop) (β : List Pl) (a : Act) (w : World), SR O β a w s → ∃ β', SR O β' a w s' ∧ Ext β w β' w
def andThen (next : S → Prop) (Q : Exit → S → Prop) : Exit → S → Prop
 | .normal, s => next s
 | e, s => Q e s
def inBlk (id : Nat) (Q : Exit → S → Prop) : Exit → S → Prop
 | .exit id', s => if id' = id then Q .normal s else Q (.exit id') s
 | e, s => Q e s
section
variable {P : Program} {Q Q' : Exit → S → Prop} {s s' : S}
theorem T.mono {c : Code} (h : T P c Q s) (hq : ∀ e s, Q e s → Q' e s) : T P c Q' s := fun O β a w hs =>
 wp_mono (h O β a w hs) fun _ _ _ ⟨s', β', h1, h2, h3⟩ => ⟨s', β', hq _ _ h1, h2, h3⟩
theorem T.gh {c : Code} (g : Gh s s') (h : T P c Q s') : T P c Q s := by
 intro O β a w hs
 obtain ⟨β1, hs1, he1⟩ := g O β a w hs
 exact wp_mono (h O β1 a w hs1) fun _ _ _ ⟨s2, β2, h1, h2, h3⟩ => ⟨s2, β2, h1, h2, he1.trans h3⟩
theorem T.skip (h : Q .normal s) : T P .skip Q s := fun _ β _ w hs => wp_skip ⟨s, β, h, hs, Ext.refl β w⟩
theorem T.label {l : Nat} (h : Q .normal s) : T P (.label l) Q s := fun _ β _ w hs => wp_label ⟨s, β, h, hs, Ext.refl β w⟩
theorem T.exit {id : Nat} (h : Q (.exit id) s) : T P (.exit id) Q s := fun _ β _ w hs => wp_exit ⟨s, β, h, hs, Ext.refl β w⟩
theorem T.ret (h : Q .ret s) : T P .ret Q s := fun _ β _ w hs => wp_ret ⟨s, β, h, hs, Ext.refl β w⟩
theorem T.seq {x y : Code} (h : T P x (andThen (T P y Q) Q) s) : T P (.seq x y) Q s := by
 intro O β a w hs
 refine wp_seq (wp_mono (h O β a w hs) ?_)
 rintro e a1 w1 ⟨s1, β1, h1, h2, h3⟩
 cases e <;> simp only [andThen, Exit.then] at h1 ⊢
 case normal => exact wp_mono (h1 O β1 a1 w1 h2) fun _ _ _ ⟨s2, β2, q1, q2, q3⟩ => ⟨s2, β2, q1, q2, h3.trans q3⟩
 all_goals exact ⟨s1, β1, h1, h2, h3⟩
theorem T.block {id : Nat} {c : Code} (h : T P c (inBlk id Q) s) : T P (.block id c) Q s := by
 intro O β a w hs
 refine wp_block (wp_mono (h O β a w hs) ?_)
 rintro e a1 w1 ⟨s1, β1, h1, h2, h3⟩
 cases e <;> simp only [inBlk, Exit.inBlock] at h1 ⊢
 case exit id' =>
  split
  ·rename_i e; simp only [e, if_true] at h1; exact ⟨s1, β1, h1, h2, h3⟩
  ·rename_i e; simp only [e, if_false] at h1; exact ⟨s1, β1, h1, h2, h3⟩
 all_goals exact ⟨s1, β1, h1, h2, h3⟩
theorem T.loop {c : Code} {α : Type} (G : α → S) (I : α → Prop) (μ : α → Nat) (x0 : α) (h0 : Gh s (G x0)) (hI : I x0)
  (round : ∀ x, I x → T P c (andThen (fun s' => ∃ y, I y ∧ μ y < μ x ∧ Gh s' (G y)) Q) (G x)) : T P (.loop c) Q s := by
 intro O β a w hs
 obtain ⟨β0, hs0, he0⟩ := h0 O β a w hs
 refine wp_loop_ghost (fun n a1 w1 => ∃ x β1, μ x = n ∧ I x ∧ SR O β1 a1 w1 (G x) ∧ Ext β w β1 w1) (μ x0) ⟨x0, β0, rfl, hI, hs0, he0⟩ ?_
 rintro n a1 w1 ⟨x, β1, rfl, hx, hs1, he1⟩
 refine wp_mono (round x hx O β1 a1 w1 hs1) ?_
 rintro e a2 w2 ⟨s2, β2, hq, hs2, he2⟩
 cases e <;> simp only [andThen, Exit.then] at hq ⊢
 case normal =>
  obtain ⟨y, hy, hlt, hg⟩ := hq
  obtain ⟨β3, hs3, he3⟩ := hg O β2 a2 w2 hs2
  exact ⟨μ y, hlt, y, β3, rfl, hy, hs3, (he1.trans he2).trans he3⟩
 all_goals exact ⟨s2, β2, hq, hs2, he1.trans he2⟩
end
end Go.Vm
namespace Go.Vm
inductive TK where
 | int (k : IntKind) | bool | str
 | ptr (e : Nat) | slice (e : Nat) | arr (n e : Nat) | struct (fs : List (Nat × Nat))
 | iface | map (k e : Nat) | func | other
 deriving Inhabited
structure TI where
 size : Nat
 bytes : Nat
 agg : Bool
 zero : V
 k : TK
 flat : List TK
 cmp : Bool := false
 deriving Inhabited
def TI.none : TI := { size := 0, bytes := 0, agg := false, zero := .dead, k := .other, flat := [] }
def tpos (t : TI) : Bool := match t.k with | .other => false | _ => Nat.blt 0 t.size
def V.cells : V → List V
 | .agg vs => vs
 | v => [v]
def mkV (t : TI) (cs : List V) : V :=
 match t.agg with
 | true => .agg cs
 | false => match cs with | [x] => x | _ => .dead
def imp (g : Bool) (p : Prop) : Prop := match g with | true => p | false => True
def getV (l : List V) (off n : Nat) : List V := (l.drop off).take n
def lenOK (g : Bool) : List V → Nat → Prop → Prop
 | _, 0, p => p
 | _ :: xs, n + 1, p => lenOK g xs n p
 | [], _ + 1, p => g = false ∧ p
def kindEq : IntKind → IntKind → Bool
 | .i8, .i8 => true | .i16, .i16 => true | .i32, .i32 => true | .i64, .i64 => true
 | .u8, .u8 => true | .u16, .u16 => true | .u32, .u32 => true | .u64, .u64 => true
 | _, _ => false
inductive Res where
 | ok (v : V) (H : List Ob)
 | need (p : Prop) (v : V) (H : List Ob)
 | bad
def Res.then (r : Res) (K : V → List Ob → Prop) : Prop :=
 match r with
 | .ok v H => K v H
 | .need p v H => p ∧ K v H
 | .bad => False
def ibits (op : BinOp) (k : IntKind) (x y : Int) : Int :=
 let a := BitVec.ofInt k.bits x
 let b := BitVec.ofInt k.bits y
 match op with
 | .and => k.wrap (a &&& b).toNat
 | .or => k.wrap (a ||| b).toNat
 | .xor => k.wrap (a ^^^ b).toNat
 | .andNot => k.wrap (a &&& ~~~b).toNat
 | _ => 0
def ishl (k : IntKind) (x y : Int) : Int := k.wrap (x * 2 ^ (min y.toNat k.bits))
def ishr (k : IntKind) (x y : Int) : Int := x.fdiv (2 ^ (min y.toNat k.bits))
def eqF : List TK → List V → List V → Option Bool
 | [], [], [] => some true
 | .int k :: ks, .int k1 a :: xs, .int k2 b :: ys =>
  match kindEq k k1, kindEq k k2, eqF ks xs ys with
  | true, true, some r => (match xs with | [] => some (a == b) | _ :: _ => some (a == b && r))
  | _, _, _ => none
 | .bool :: ks, .bool a :: xs, .bool b :: ys =>
  match eqF ks xs ys with
  | some r => (match xs with | [] => some (a == b) | _ :: _ => some (a == b && r))
  | _ => none
 | .str :: ks, .str a :: xs, .str b :: ys =>
  match eqF ks xs ys with
  | some r => (match xs with | [] => some (a == b) | _ :: _ => some (a == b && r))
  | _ => none
 | _, _, _ => none
def eqN (k : TK) (x y : V) (g : Bool) : Option (Option Prop × Bool) :=
 match k, x, y with
 | .bool, .bool a, .bool b => some (none, a == b)
 | .ptr _, .nilp, .nilp => some (none, true)
 | .ptr _, .nilp, .ptr _ _ _ => some (none, false)
 | .ptr _, .ptr _ _ _, .nilp => some (none, false)
 | .ptr _, .nilp, .fp _ => some (none, false)
 | .ptr _, .fp _, .nilp => some (none, false)
 | .slice _, .sl true _ _, .sl true _ _ => some (none, true)
 | .slice _, .sl false _ n, .sl true _ _ => some (some (imp g (n ≠ 0)), false)
 | .slice _, .sl true _ _, .sl false _ n => some (some (imp g (n ≠ 0)), false)
 | .slice _, .buf _ _ _ n _, .sl true _ _ => some (some (imp g (n ≠ 0)), false)
 | .slice _, .sl true _ _, .buf _ _ _ n _ => some (some (imp g (n ≠ 0)), false)
 | .iface, .nili, .ifc _ _ => some (none, false)
 | .iface, .ifc _ _, .nili => some (none, false)
 | .func, .nilf, .nilf => some (none, true)
 | .func, .nilf, .fn _ _ _ => some (none, false)
 | .func, .fn _ _ _, .nilf => some (none, false)
 | .map _ _, .nilm, .nilm => some (none, true)
 | .map _ _, .nilm, .mp _ => some (none, false)
 | .map _ _, .mp _, .nilm => some (none, false)
 | _, _, _ => none
def binR (t : TI) (op : BinOp) (x y : V) (g : Bool) (H : List Ob) : Res :=
 match op, x, y with
 | .shl, .int k a, .int _ b => .need (imp g (0 ≤ b)) (.int k (ishl k a b)) H
 | .shr, .int k a, .int _ b => .need (imp g (0 ≤ b)) (.int k (ishr k a b)) H
 | op, .int k a, .int k' b =>
  match kindEq k k' with
  | false => .bad
  | true =>
   match op with
   | .add => .ok (.int k (k.wrap (a + b))) H
   | .sub => .ok (.int k (k.wrap (a - b))) H
   | .mul => .ok (.int k (k.wrap (a * b))) H
   | .quo => .need (imp g (b ≠ 0)) (.int k (k.wrap (a.tdiv b))) H
   | .rem => .need (imp g (b ≠ 0)) (.int k (a.tmod b)) H
   | .and => .ok (.int k (ibits .and k a b)) H
   | .or => .ok (.int k (ibits .or k a b)) H
   | .xor => .ok (.int k (ibits .xor k a b)) H
   | .andNot => .ok (.int k (ibits .andNot k a b)) H
   | .eql => .ok (.bool (a == b)) H
   | .neq => .ok (.bool (a != b)) H
   | .lss => .ok (.bool (decide (a < b))) H
   | .leq => .ok (.bool (decide (a ≤ b))) H
   | .gtr => .ok (.bool (decide (b < a))) H
   | .geq => .ok (.bool (decide (b ≤ a))) H
   | _ => .bad
 | op, .str a, .str b =>
  match op with
  | .add => .need (imp g (a.length + b.length ≤ 4611686018427387904)) (.str (a ++ b)) H
  | .eql => .ok (.bool (a == b)) H
  | .neq => .ok (.bool (!(a == b))) H
  | .lss => .ok (.bool (Op.bytesLess a b)) H
  | .leq => .ok (.bool (Op.bytesLess a b || a == b)) H
  | .gtr => .ok (.bool (!(Op.bytesLess a b || a == b))) H
  | .geq => .ok (.bool (!(Op.bytesLess a b))) H
  | _ => .bad
 | .eql, .agg xs, .agg ys => match eqF t.flat xs ys with | some b => .ok (.bool b) H | none => .bad
 | .neq, .agg xs, .agg ys => match eqF t.flat xs ys with | some b => .ok (.bool (!b)) H | none => .bad
 | .eql, x, y => match eqN t.k x y g with | some (none, b) => .ok (.bool b) H | some (some p, b) => .need p (.bool b) H | none => .bad
 | .neq, x, y => match eqN t.k x y g with | some (none, b) => .ok (.bool (!b)) H | some (some p, b) => .need p (.bool (!b)) H | none => .bad
 | _, _, _ => .bad
def ifcS (tt : Nat → TI) (t : Nat) (x : V) (u : Nat) (v : V) : Option Bool :=
 match Nat.beq t u with
 | false => some false
 | true => match (tt t).k, x, v with
  | .str, .str a, .str b => some (a == b)
  | .struct [], .agg [], .agg [] => (match (tt t).cmp with | true => some true | false => none)
  | _, _, _ => none
def ifcEq (tt : Nat → TI) (k : TK) (op : BinOp) (x y : V) : Option Bool :=
 match k with
 | .iface => match op, x, y with
  | .eql, .ifc t x, .ifc u y => ifcS tt t x u y
  | .neq, .ifc t x, .ifc u y => (match ifcS tt t x u y with | some b => some (!b) | none => none)
  | _, _, _ => none
 | _ => none
def place {α : Type} : List α → Nat → α → List α
 | [], _, o => [o]
 | _ :: xs, 0, o => o :: xs
 | x :: xs, n + 1, o => x :: place xs n o
def getO : List Ob → Nat → Ob
 | [], _ => .dead
 | x :: _, 0 => x
 | _ :: xs, n + 1 => getO xs n
def setO : List Ob → Nat → Ob → List Ob
 | [], _, _ => []
 | _ :: xs, 0, o => o :: xs
 | x :: xs, n + 1, o => x :: setO xs n o
def putV : List V → Nat → List V → List V
 | l, 0, [] => l
 | _ :: xs, 0, c :: cs => c :: putV xs 0 cs
 | x :: xs, n + 1, cs => x :: putV xs n cs
 | [], _, _ => []
def V.one : V → Bool
 | .agg _ => false
 | .tup _ => false
 | .opt _ _ => false
 | .dead => false
 | _ => true
def V.cok : V → Bool
 | .agg _ => true
 | x => x.one
def ones (g : Bool) : List V → Prop → Prop
 | [], p => p
 | x :: xs, p => match x.one with | true => ones g xs p | false => g = false ∧ p
def fillP (place : Nat → Option (Nat × Nat)) (cells : List V) : List (Nat × V) → Option (List V)
 | [] => some cells
 | (i, v) :: rest =>
  match place i with
  | none => none
  | some (off, size) =>
   match Nat.beq v.cells.length size, Nat.ble (off + size) cells.length with
   | true, true => fillP place (putV cells off v.cells) rest
   | _, _ => none
def placeOf (tt : Nat → TI) (t : TI) (i : Nat) : Option (Nat × Nat) :=
 match t.k with
 | .struct fs => match fs[i]? with | some (off, ft) => some (off, (tt ft).size) | none => none
 | .arr _ e => some (i * (tt e).size, (tt e).size)
 | _ => none
def repC (n : Nat) (z : List V) : List V :=
 match z with
 | [x] => List.replicate n x
 | z => (List.replicate n z).flatten
def unR (op : UnOp) (x : V) (H : List Ob) : Res :=
 match op, x with
 | .not, .bool b => .ok (.bool (!b)) H
 | .neg, .int k n => .ok (.int k (k.wrap (0 - n))) H
 | .xor, .int k n => .ok (.int k (ibits .xor k (if k.signed then -1 else k.max) n)) H
 | _, _ => .bad
def convR (a b : TI) (x : V) (H : List Ob) : Res :=
 match b.k, x with
 | .int k, .int _ n => .ok (.int k (k.wrap n)) H
 | .str, .str s => match a.k with | .str => .ok (.str s) H | _ => .bad
 | _, _ => .bad
def ldR (t : TI) (x : V) (g : Bool) (H : List Ob) : Res :=
 match x with
 | .ptr id ver off =>
  match getO H id with
  | .cells ver' l => .need (imp g (ver = ver') ∧ lenOK g l (off + t.size) True) (mkV t (getV l off t.size)) H
  | _ => .bad
 | .fp cells => .need (lenOK g cells t.size True) (mkV t (getV cells 0 t.size)) H
 | _ => .bad
def stR (t : TI) (x v : V) (H : List Ob) : Res :=
 match x with
 | .ptr id ver off =>
  match getO H id with
  | .cells ver' l => .need (ver = ver' ∧ v.cells.length = t.size ∧ ones true v.cells True ∧ lenOK true l (off + t.size) True) (.tup []) (setO H id (.cells ver' (putV l off v.cells)))
  | _ => .bad
 | _ => .bad
def idxAR (tt : Nat → TI) (t : TI) (x : V) (i : Int) (g : Bool) (H : List Ob) : Res :=
 match t.k, x with
 | .slice e, .sl _ cells len => .need (imp g (0 ≤ i ∧ i < (len : Int))) (.fp (cells.drop (i.toNat * (tt e).size))) H
 | .slice e, .buf id ver off len sz => match Nat.beq sz (tt e).size with
  | true => .need (imp g (0 ≤ i ∧ i < (len : Int))) (.ptr id ver (off + i.toNat * (tt e).size)) H
  | false => .bad
 | .arr n e, .ptr id ver off => .need (imp g (0 ≤ i ∧ i < (n : Int))) (.ptr id ver (off + i.toNat * (tt e).size)) H
 | .arr n e, .fp cells => .need (imp g (0 ≤ i ∧ i < (n : Int))) (.fp (cells.drop (i.toNat * (tt e).size))) H
 | _, _ => .bad
def idxR (tt : Nat → TI) (t : TI) (x : V) (i : Int) (g : Bool) (H : List Ob) : Res :=
 match t.k, x with
 | .str, .str s => .need (imp g (0 ≤ i ∧ i < (s.length : Int))) (.int .u8 (s.getD i.toNat 0).toNat) H
 | .arr n e, .agg cs => .need (imp g (0 ≤ i ∧ i < (n : Int)) ∧ lenOK g cs (i.toNat * (tt e).size + (tt e).size) True) (mkV (tt e) (getV cs (i.toNat * (tt e).size) (tt e).size)) H
 | _, _ => .bad
def fldAR (tt : Nat → TI) (t : TI) (x : V) (f : Nat) (H : List Ob) : Res :=
 match t.k with
 | .struct fs => match fs[f]? with
  | some (o, ft) => match tpos (tt ft) with
   | true => match x with
    | .ptr id ver off => .ok (.ptr id ver (off + o)) H
    | .fp cells => .ok (.fp (cells.drop o)) H
    | _ => .bad
   | false => .bad
  | none => .bad
 | _ => .bad
def fldR (tt : Nat → TI) (t : TI) (x : V) (f : Nat) (g : Bool) (H : List Ob) : Res :=
 match t.k with
 | .struct fs => match fs[f]?, x with
  | some (o, ft), .agg cs => .need (lenOK g cs (o + (tt ft).size) True) (mkV (tt ft) (getV cs o (tt ft).size)) H
  | _, _ => .bad
 | _ => .bad
def slR (tt : Nat → TI) (t : TI) (x : V) (lo hi mx : Option Int) (g : Bool) (H : List Ob) : Res :=
 match t.k, x with
 | .str, .str s =>
  let l := lo.getD 0
  let h := hi.getD s.length
  match mx with
  | some _ => .bad
  | none => .need (imp g (0 ≤ l ∧ l ≤ h ∧ h ≤ (s.length : Int))) (.str ((s.drop l.toNat).take (h.toNat - l.toNat))) H
 | .slice e, .sl b cells len =>
  let l := lo.getD 0
  let h := hi.getD len
  let m := mx.getD h
  .need (imp g (0 ≤ l ∧ l ≤ h ∧ h ≤ m ∧ m ≤ (len : Int))) (.sl b ((cells.drop (l.toNat * (tt e).size)).take ((h.toNat - l.toNat) * (tt e).size)) (h.toNat - l.toNat)) H
 | .slice e, .buf id ver off len sz =>
  let l := lo.getD 0
  let h := hi.getD len
  let m := mx.getD h
  match Nat.beq sz (tt e).size with
  | true => .need (imp g (0 ≤ l ∧ l ≤ h ∧ h ≤ m ∧ m ≤ (len : Int))) (.buf id ver (off + l.toNat * sz) (h.toNat - l.toNat) sz) H
  | false => .bad
 | .arr n e, .ptr id ver off =>
  let l := lo.getD 0
  let h := hi.getD n
  let m := mx.getD h
  match getO H id with
  | .cells ver' cs => .need (imp g (ver = ver' ∧ 0 ≤ l ∧ l ≤ h ∧ h ≤ m ∧ m ≤ (n : Int)) ∧ lenOK g cs (off + n * (tt e).size) True) (.buf id ver (off + l.toNat * (tt e).size) (h.toNat - l.toNat) (tt e).size) H
  | _ => .bad
 | _, _ => .bad
def srcC (x : V) (sz : Nat) (H : List Ob) : Option (List V × Nat) :=
 match x with
 | .sl _ cells n => some (cells.take (n * sz), n)
 | .buf id _ off n _ => match getO H id with
  | .cells _ l => some ((l.drop off).take (n * sz), n)
  | _ => none
 | .str s => some (s.map fun b => .int .u8 b.toNat, s.length)
 | _ => none
def srcP (x : V) (sz : Nat) (H : List Ob) : Prop :=
 match x with
 | .sl _ cells n => n * sz ≤ cells.length
 | .buf id ver off n sz' => sz' = sz ∧ (match getO H id with | .cells ver' l => ver = ver' ∧ off + n * sz ≤ l.length | _ => False)
 | .str _ => sz = 1
 | _ => False
def u8s : List V → Bool
 | [] => true
 | .int .u8 _ :: xs => u8s xs
 | _ => false
def toBytes : List V → List UInt8
 | [] => []
 | .int _ n :: xs => UInt8.ofNat n.toNat :: toBytes xs
 | _ :: xs => 0 :: toBytes xs
def isBS (tt : Nat → TI) (a b : TI) : Bool :=
 match b.k, a.k with
 | .str, .slice e => match (tt e).k with | .int .u8 => true | _ => false
 | _, _ => false
def bytesR (x : V) (H : List Ob) : Res :=
 match x with
 | .str _ => .bad
 | x => match srcC x 1 H with
  | none => .bad
  | some (src, _) => .need (srcP x 1 H ∧ u8s src = true) (.str (toBytes src)) H
def capMax : Nat := 68719476736
def appR (te : TI) (d x : V) (nid : Nat) (H : List Ob) : Res :=
 match srcC x te.size H with
 | none => .bad
 | some (src, n) =>
  match d with
  | .sl true _ _ => .need (srcP x te.size H ∧ n ≤ capMax ∧ te.bytes ≤ 1024 ∧ 0 < te.size ∧ ones true src True) (.buf nid 0 0 n te.size) (place H nid (.cells 0 src))
  | .buf id ver off len sz =>
   match getO H id with
   | .cells ver' l => .need (srcP x te.size H ∧ sz = te.size ∧ 0 < te.size ∧ ver = ver' ∧ off + len * te.size = l.length ∧ len + n ≤ capMax ∧ te.bytes ≤ 1024 ∧ ones true src True)
     (.buf id (ver + 1) 0 (len + n) te.size) (setO H id (.cells (ver + 1) (l.drop off ++ src)))
   | _ => .bad
  | _ => .bad
def copyR (te : TI) (d x : V) (H : List Ob) : Res :=
 match srcC x te.size H, d with
 | some (src, n), .buf id ver off len sz =>
  match getO H id with
  | .cells ver' l => .need (srcP x te.size H ∧ sz = te.size ∧ ver = ver' ∧ off + len * te.size ≤ l.length ∧ ones true src True)
    (.int .i64 (min n len : Nat)) (setO H id (.cells ver' (putV l off (src.take (min n len * te.size)))))
  | _ => .bad
 | _, _ => .bad
def lenR (t : TI) (x : V) (H : List Ob) : Res :=
 match t.k, x with
 | .str, .str s => .ok (.int .i64 s.length) H
 | .slice _, .sl _ _ n => .ok (.int .i64 n) H
 | .slice _, .buf _ _ _ n _ => .ok (.int .i64 n) H
 | .arr n _, _ => .ok (.int .i64 n) H
 | _, _ => .bad
def makeR (te : TI) (n m : Int) (nid : Nat) (H : List Ob) : Res :=
 .need (n = m ∧ 0 ≤ n ∧ n ≤ (capMax : Int) ∧ te.bytes ≤ 1024 ∧ 0 < te.size) (.buf nid 0 0 n.toNat te.size) (place H nid (.cells 0 (repC n.toNat te.zero.cells)))
end Go.Vm
namespace Go.Vm
variable [GlobTab]
def descOK (d : TypeDesc) (ti : TI) : Prop :=
 ti.agg = (match d with | .struct _ | .array _ _ => true | _ => false) ∧
 match ti.k with
 | .int k => d = .int k
 | .bool => d = .bool
 | .str => d = .string
 | .ptr e => d = .pointer e
 | .slice e => d = .slice e
 | .arr n e => d = .array n e
 | .struct fs => ∃ fields : Array Field, d = .struct fields ∧ fields.toList.map (fun f => (f.offset, f.type)) = fs
 | .iface => ∃ ms, d = .interface ms
 | .map k e => d = .map k e
 | .func => ∃ a b c, d = .func a b c
 | .other => False
def eqC : List TK → List Value → List Value → Option Bool
 | [], [], [] => some true
 | .int k :: ks, .int k1 a :: xs, .int k2 b :: ys => if k = k1 ∧ k = k2 then (eqC ks xs ys).map fun r => a == b && r else none
 | .bool :: ks, .bool a :: xs, .bool b :: ys => (eqC ks xs ys).map fun r => a == b && r
 | .str :: ks, .string a :: xs, .string b :: ys => (eqC ks xs ys).map fun r => a == b && r
 | _, _, _ => none
structure TIok (P : Program) (t : Nat) (ti : TI) : Prop where
 info : ∃ i z, P.info? t = some i ∧ i.size = ti.size ∧ i.bytes = ti.bytes ∧ i.zero = some z ∧ (∀ own w β, VR own w β ti.zero z) ∧ z.cells.size = ti.size ∧ ti.zero.cells.length = ti.size
 desc : ∃ d, P.underlying t = some d ∧ descOK d ti
 cmp : ti.k = .str → ∃ i, P.info? t = some i ∧ i.comparable = true
 key : ti.cmp = true → (∃ i, P.info? t = some i ∧ i.comparable = true) ∧ P.stoodInHeld t = false ∧ ∀ fields : Array Field, P.underlying t = some (.struct fields) → ∀ f ∈ fields.toList, f.name ≠ "_"
 guard : ti.agg = true → ti.flat ≠ [] → P.eqGuardType P.depth t = false
 eq : ti.agg = true → ti.flat ≠ [] → ∀ (w : World) (xs ys : List Value) (b : Bool), eqC ti.flat xs ys = some b → (Op.equal t (.agg xs.toArray) (.agg ys.toArray)).run P w = .ok b w
def TOK (P : Program) (tt : Nat → TI) : Prop := ∀ t, (tt t).k ≠ .other → TIok P t (tt t)
def Good (O : Nat → Prop) (β : List Pl) (w : World) (r : Result Value) (K : V → List Ob → Prop) : Prop :=
 ∃ v w', r = .ok v w' ∧ ∃ x H' β', K x H' ∧ HR O β' w' H' ∧ VR (Own O β') w' β' x v ∧ Ext β w β' w'
section
variable {O : Nat → Prop} {β : List Pl} {w : World} {H : List Ob} {K : V → List Ob → Prop} {P : Program} {tt : Nat → TI}
theorem Good.same {r : Result Value} {v : Value} {x : V} (hr : r = .ok v w) (hh : HR O β w H) (hk : K x H) (hv : VR (Own O β) w β x v) : Good O β w r K :=
 ⟨v, w, hr, x, H, β, hk, hh, hv, Ext.refl β w⟩
theorem kindEq_iff {k k' : IntKind} : kindEq k k' = true ↔ k = k' := by cases k <;> cases k' <;> simp [kindEq]
theorem lenOK_true {l : List V} {n : Nat} {p : Prop} (h : lenOK true l n p) : n ≤ l.length ∧ p := by
 induction l generalizing n with
 | nil => cases n <;> simp_all [lenOK]
 | cons x xs ih =>
  cases n with
  | zero => simp only [lenOK] at h; exact ⟨Nat.zero_le _, h⟩
  | succ n => simp only [lenOK] at h; have := ih h; simp; exact ⟨by omega, this.2⟩
theorem ones_true {l : List V} {p : Prop} (h : ones true l p) : (∀ x ∈ l, x.one = true) ∧ p := by
 induction l with
 | nil => simpa [ones] using h
 | cons x xs ih =>
  simp only [ones] at h
  cases hx : x.one with
  | false => rw [hx] at h; simp at h
  | true => rw [hx] at h; simp only at h; have := ih h; exact ⟨by simpa [hx] using this.1, this.2⟩
theorem VR.one {own : Nat → Prop} {x : V} {v : Value} (h : VR own w β x v) (hx : x.one = true) : v.oneCell' = true := by
 cases x <;> simp only [V.one] at hx <;> simp only [VR] at h
 case sl => rcases h with ⟨_, rfl, _⟩ | ⟨_, b, off, cap, l, rfl, _⟩ <;> rfl
 case fp => obtain ⟨b, off, l, rfl, _⟩ := h; rfl
 case buf => obtain ⟨⟨a, c, rfl, _, _⟩, _⟩ := h; rfl
 case ptr => obtain ⟨⟨a, rfl⟩, _⟩ := h; rfl
 case mp => obtain ⟨⟨a, rfl⟩, _⟩ := h; rfl
 case ifc => obtain ⟨y, rfl, _⟩ := h; rfl
 case fn => obtain ⟨la, lb, rfl, _⟩ := h; rfl
 all_goals first
  | (subst h; rfl)
  | (exact absurd hx (by decide))
theorem VRs.oneAll {own : Nat → Prop} {xs : List V} {vs : List Value} (h : VRs own w β xs vs) (hx : ∀ x ∈ xs, x.one = true) : ∀ v ∈ vs, v.oneCell' = true := by
 intro v hv
 obtain ⟨i, hi⟩ := List.getElem?_of_mem hv
 have hl := h.length
 have hlt : i < xs.length := by
  have := (List.getElem?_eq_some_iff.1 hi).1; omega
 obtain ⟨u, hu, hr⟩ := h.get (x := xs[i]) (List.getElem?_eq_getElem hlt)
 rw [hi] at hu
 cases hu
 exact hr.one (hx _ (List.getElem_mem hlt))
theorem VR.cells' {own : Nat → Prop} {x : V} {v : Value} (h : VR own w β x v) (hx : x.cok = true) : VRs own w β x.cells v.cells.toList := by
 cases x <;> simp only [V.cells, V.cok] at hx ⊢
 case agg vs => simp only [VR] at h; obtain ⟨l, rfl, h2⟩ := h; simpa [Value.cells] using h2
 all_goals
  have h1 := h.one hx
  have : v.cells = #[v] := by cases v <;> first | rfl | simp [Value.oneCell'] at h1
  rw [this]
  simp only [VRs, and_true]
  exact h
theorem VR.cells {own : Nat → Prop} {x : V} {v : Value} (h : VR own w β x v) (hx : ∀ y ∈ x.cells, y.one = true) : VRs own w β x.cells v.cells.toList :=
 h.cells' (by cases x <;> simp only [V.cells, V.cok] at hx ⊢ <;> first | rfl | exact hx _ (by simp))
theorem getO_eq {H : List Ob} {i : Nat} {o : Ob} (h : getO H i = o) (ho : o ≠ .dead) : H[i]? = some o := by
 induction H generalizing i with
 | nil => simp [getO] at h; exact absurd h.symm ho
 | cons x xs ih =>
  cases i with
  | zero => simp [getO] at h; simp [h]
  | succ i => simp only [getO] at h; simpa using ih h
theorem HR.cells (hh : HR O β w H) {id ver : Nat} {l : List V} (h : getO H id = .cells ver l) :
  (β[id]? = some (.nilb ver) ∧ l = []) ∨
  ∃ b base cs ty, β[id]? = some (.blk b base cs.size ver) ∧ w.heap[b]? = some (.cells cs ty (0, 0)) ∧ base + l.length ≤ cs.size ∧ VRs (Own O β) w β l ((cs.toList.drop base).take l.length) := by
 have hg := getO_eq h (by simp)
 have hlt : id < β.length := by rw [hh.len]; exact (List.getElem?_eq_some_iff.1 hg).1
 have hb : β[id]? = some β[id] := List.getElem?_eq_getElem hlt
 have := hh.ob id _ _ hb hg
 simp only [ObR] at this
 rcases this with ⟨h1, h2⟩ | ⟨b, base, cs, ty, h1, h2⟩
 ·exact .inl ⟨by rw [hb, h1], h2⟩
 ·exact .inr ⟨b, base, cs, ty, by rw [hb, h1], h2⟩
theorem cell_of_heap {w : World} {b : Nat} {cs : Array Value} {ty : TypeId} {fr : Nat × Nat} (h : w.heap[b]? = some (.cells cs ty fr)) (i : Nat) :
  w.cell? ⟨b, i, none⟩ = cs[i]? := by simp [World.cell?, h]
theorem live_cells (hh : HR O β w H) {id ver off n : Nat} {l : List V} {v : Value} (h : getO H id = .cells ver l) (hv : VR (Own O β) w β (.ptr id ver off) v) (hn : off + n ≤ l.length) :
  ∃ b base cs ty, β[id]? = some (.blk b base cs.size ver) ∧ v = .pointer (some ⟨b, base + off, none⟩) ∧ w.heap[b]? = some (.cells cs ty (0, 0)) ∧ base + l.length ≤ cs.size ∧
   VRs (Own O β) w β l ((cs.toList.drop base).take l.length) ∧ VRs (Own O β) w β (getV l off n) ((cs.toList.drop (base + off)).take n) := by
 simp only [VR] at hv
 replace hv := hv.2
 rcases hh.cells h with ⟨h1, rfl⟩ | ⟨b, base, cs, ty, h1, h2, h3, h4⟩
 ·rw [h1] at hv
  simp [PtrR] at hv
 ·rw [h1] at hv
  simp only [PtrR, Nat.le_refl, true_and, forall_const] at hv
  refine ⟨b, base, cs, ty, h1, hv, h2, h3, h4, ?_⟩
  have := (h4.drop off).take n
  rw [List.drop_take, List.take_take, List.drop_drop, show min n (l.length - off) = n by omega] at this
  exact this
theorem get_place {α : Type} {l : List α} {n : Nat} (h : n ≤ l.length) (o : α) (i : Nat) : (place l n o)[i]? = if i = n then some o else l[i]? := by
 induction l generalizing n i with
 | nil =>
  obtain rfl : n = 0 := by simpa using h
  cases i <;> simp [place]
 | cons x xs ih =>
  cases n with
  | zero => cases i <;> simp [place]
  | succ n =>
   simp only [place]
   cases i with
   | zero => simp
   | succ i => simp [ih (by simpa using h)]
theorem length_place {α : Type} {l : List α} {n : Nat} (h : n ≤ l.length) (o : α) : (place l n o).length = max l.length (n + 1) := by
 induction l generalizing n with
 | nil =>
  obtain rfl : n = 0 := by simpa using h
  simp [place]
 | cons x xs ih =>
  cases n with
  | zero => simp only [place, List.length_cons]; omega
  | succ n => simp only [place, List.length_cons]; rw [ih (by simpa using h)]; omega
theorem setO_place {H : List Ob} {n : Nat} (h : n < H.length) (o : Ob) : setO H n o = place H n o := by
 induction H generalizing n with
 | nil => simp at h
 | cons x xs ih =>
  cases n with
  | zero => rfl
  | succ n => simp only [setO, place]; rw [ih (by simpa using h)]
theorem getO_lt {H : List Ob} {i : Nat} {o : Ob} (h : getO H i = o) (ho : o ≠ .dead) : i < H.length := (List.getElem?_eq_some_iff.1 (getO_eq h ho)).1
theorem HR.put (hh : HR O β w H) {nid : Nat} (hn : nid ≤ H.length) {loc' : Pl} {o' : Ob} {w' : World} (he : Ext β w (place β nid loc') w')
  (hother : ∀ (j : Nat) (l : Pl) (b : Nat), j ≠ nid → β[j]? = some l → l.block? = some b → w'.heap[b]? = w.heap[b]?)
  (hob : ObR (Own O (place β nid loc')) w' (place β nid loc') loc' o')
  (hblk : ∀ b, loc'.block? = some b → b < w'.heap.size ∧ ¬ O b ∧ ∀ (j : Nat) (l : Pl), j ≠ nid → β[j]? = some l → l.block? ≠ some b) :
  HR O (place β nid loc') w' (place H nid o') := by
 have hn' : nid ≤ β.length := by rw [hh.len]; exact hn
 have hin : ∀ b, InB (place β nid loc') b → loc'.block? = some b ∨ ∃ (j : Nat) (l : Pl), j ≠ nid ∧ β[j]? = some l ∧ l.block? = some b := by
  rintro b ⟨i, l, hi, hl⟩
  rw [get_place hn'] at hi
  split at hi
  ·cases hi; exact .inl hl
  ·rename_i hne; exact .inr ⟨i, l, hne, hi, hl⟩
 refine ⟨by rw [length_place hn', length_place hn, hh.len], ?_, ?_, ?_, ?_, fun b hb => Nat.lt_of_lt_of_le (hh.old b hb) he.size, hh.glob.ext he⟩
 ·intro i loc o hi ho
  rw [get_place hn'] at hi
  rw [get_place hn] at ho
  by_cases hin : i = nid
  ·subst hin; simp at hi ho; subst hi; subst ho; exact hob
  ·rw [if_neg hin] at hi ho
   have h0 := hh.ob i loc o hi ho
   cases o with
   | unborn => exact h0
   | dead => exact h0
   | cells ver l =>
    simp only [ObR] at h0 ⊢
    refine h0.imp id ?_
    rintro ⟨b, base, cs, ty, h1, h2, h3, h4⟩
    exact ⟨b, base, cs, ty, h1, by rw [hother i loc b hin hi (by rw [h1]; rfl)]; exact h2, h3, VRs.ext he _ _ h4⟩
   | map es =>
    simp only [ObR] at h0 ⊢
    obtain ⟨b, en, clock, h1, h2, h3, h4⟩ := h0
    exact ⟨b, en, clock, h1, by rw [hother i loc b hin hi (by rw [h1]; rfl)]; exact h2, VRs.ext he _ _ h3, VRs.ext he _ _ h4⟩
 ·intro i j l l' b hi hj hl hl'
  rw [get_place hn'] at hi hj
  by_cases hi0 : i = nid
  ·by_cases hj0 : j = nid
   ·omega
   ·rw [if_pos hi0] at hi; cases hi
    rw [if_neg hj0] at hj
    exact absurd hl' ((hblk b hl).2.2 j l' hj0 hj)
  ·by_cases hj0 : j = nid
   ·rw [if_pos hj0] at hj; cases hj
    rw [if_neg hi0] at hi
    exact absurd hl ((hblk b hl').2.2 i l hi0 hi)
   ·rw [if_neg hi0] at hi; rw [if_neg hj0] at hj
    exact hh.inj i j l l' b hi hj hl hl'
 ·intro b hb
  rcases hin b hb with h | ⟨j, l, _, hj, hl⟩
  ·exact (hblk b h).1
  ·exact Nat.lt_of_lt_of_le (hh.lt b ⟨j, l, hj, hl⟩) he.size
 ·intro b hb
  rcases hin b hb with h | ⟨j, l, _, hj, hl⟩
  ·exact (hblk b h).2.1
  ·exact hh.apart b ⟨j, l, hj, hl⟩
def Free (H : List Ob) (nid : Nat) : Prop := nid = H.length ∨ H[nid]? = some .unborn
theorem Free.le {nid : Nat} (h : Free H nid) : nid ≤ H.length := by
 rcases h with h | h
 ·omega
 ·exact Nat.le_of_lt (List.getElem?_eq_some_iff.1 h).1
theorem Free.loc (hh : HR O β w H) {nid : Nat} (h : Free H nid) : ∀ l, β[nid]? = some l → l = .unborn := by
 intro l hl
 rcases h with h | h
 ·have := (List.getElem?_eq_some_iff.1 hl).1
  rw [hh.len] at this; omega
 ·have := hh.ob nid l .unborn hl h
  exact this
theorem HR.alloc' (hh : HR O β w H) {nid ver : Nat} (hn : nid ≤ H.length) {cs : Array Value} {ty : TypeId} {l : List V} {w0 : World} (hle : ∀ p, β[nid]? = some p → p.le (some (.blk w.heap.size 0 cs.size ver)))
  (e1 : w0.heap = w.heap) (e2 : w0.os = w.os) (e3 : w0.tape = w.tape) (e4 : w0.output = w.output) (hl : VRs (Own O β) w β l (cs.toList.take l.length)) (hll : l.length ≤ cs.size) :
  HR O (place β nid (.blk w.heap.size 0 cs.size ver)) (w0.alloc (.cells cs ty)) (place H nid (.cells ver l)) ∧ Ext β w (place β nid (.blk w.heap.size 0 cs.size ver)) (w0.alloc (.cells cs ty)) := by
 have hn' : nid ≤ β.length := by rw [hh.len]; exact hn
 have hold : ∀ b, b < w.heap.size → (w0.alloc (.cells cs ty)).heap[b]? = w.heap[b]? := fun b hb => by rw [heap_alloc_old w0 _ b (by rw [e1]; exact hb), e1]
 have he : Ext β w (place β nid (.blk w.heap.size 0 cs.size ver)) (w0.alloc (.cells cs ty)) := by
  refine ⟨by simp [e1], fun b hb _ => hold b hb, e2, e3, e4, ?_, ?_⟩
  ·rintro b ⟨i, l, hi, hl⟩
   rw [get_place hn'] at hi
   split at hi
   ·cases hi; simp [Pl.block?] at hl; exact .inr (by omega)
   ·exact .inl ⟨i, l, hi, hl⟩
  ·intro i l hi
   rw [get_place hn']
   split
   ·rename_i e; subst e; exact hle l hi
   ·rw [hi]; exact l.le_refl
 refine ⟨HR.put hh hn he (fun j l b _ hj hl => hold b (hh.lt b ⟨j, l, hj, hl⟩)) ?_ ?_, he⟩
 ·simp only [ObR]
  exact .inr ⟨w.heap.size, 0, cs, ty, rfl, by rw [← e1]; exact heap_alloc_new w0 _, by omega, by rw [List.drop_zero]; exact VRs.ext he _ _ hl⟩
 ·intro b hb
  simp [Pl.block?] at hb
  subst hb
  refine ⟨by simp [e1], fun ho => ?_, fun j l _ hj hl => ?_⟩
  ·have := hh.old _ ho; omega
  ·have := hh.lt _ ⟨j, l, hj, hl⟩; omega
theorem HR.alloc (hh : HR O β w H) {nid : Nat} (hf : Free H nid) {cs : Array Value} {ty : TypeId} {l : List V} (hl : VRs (Own O β) w β l cs.toList) :
  HR O (place β nid (.blk w.heap.size 0 cs.size 0)) (w.alloc (.cells cs ty)) (place H nid (.cells 0 l)) ∧ Ext β w (place β nid (.blk w.heap.size 0 cs.size 0)) (w.alloc (.cells cs ty)) := by
 have h2 := hl.length
 simp at h2
 exact hh.alloc' hf.le (fun p hp => by rw [hf.loc hh p hp]; trivial) rfl rfl rfl rfl (by rw [List.take_of_length_le (by simp; omega)]; exact hl) (by omega)
theorem VR.new_ptr (hh : HR O β w H) {nid : Nat} (hf : Free H nid) {w' : World} {b n : Nat} : VR (Own O (place β nid (.blk b 0 n 0))) w' (place β nid (.blk b 0 n 0)) (.ptr nid 0 0) (.pointer (some ⟨b, 0, none⟩)) := by
 have hn' : nid ≤ β.length := by rw [hh.len]; exact hf.le
 simp only [VR]
 rw [get_place hn', if_pos rfl]
 exact ⟨⟨_, rfl⟩, Nat.le_refl _, fun _ => rfl⟩
theorem VR.new_buf (hh : HR O β w H) {nid : Nat} (hf : Free H nid) {w' : World} {b n len cap sz : Nat} (h1 : len ≤ cap) (h2 : cap * sz ≤ n) :
  VR (Own O (place β nid (.blk b 0 n 0))) w' (place β nid (.blk b 0 n 0)) (.buf nid 0 0 len sz) (.slice (some ⟨b, 0, none⟩) len cap) := by
 have hn' : nid ≤ β.length := by rw [hh.len]; exact hf.le
 simp only [VR]
 rw [get_place hn', if_pos rfl]
 exact ⟨⟨_, _, rfl, h1, fun _ => rfl⟩, Nat.le_refl _, fun _ => ⟨⟨b, 0, none⟩, cap, rfl, h1, ⟨0, rfl⟩, fun _ => rfl, by simpa using h2⟩⟩
end
end Go.Vm
namespace Go.Vm
variable [GlobTab]
section
variable {O : Nat → Prop} {β : List Pl} {w : World} {H : List Ob} {K : V → List Ob → Prop} {P : Program} {tt : Nat → TI}
theorem TOK.sizeOf (tok : TOK P tt) {t : Nat} (h : (tt t).k ≠ .other) (w : World) : (sizeOf t).run P w = .ok (tt t).size w := by
 obtain ⟨i, z, h1, h2, _⟩ := (tok t h).info
 simp [Go.sizeOf, typeInfo, h1, h2]
theorem TOK.isAgg (tok : TOK P tt) {t : Nat} (h : (tt t).k ≠ .other) (w : World) : (isAgg t).run P w = .ok (tt t).agg w := by
 obtain ⟨d, h1, h2, _⟩ := (tok t h).desc
 unfold Go.isAgg
 rw [Sem.run_bind, run_underlying h1 w, h2]
 cases d <;> rfl
theorem TOK.zero (tok : TOK P tt) {t : Nat} (h : (tt t).k ≠ .other) : ∃ z, (∀ w, (zeroValue t).run P w = .ok z w) ∧ (∀ own w β, VR own w β (tt t).zero z) ∧ z.cells.size = (tt t).size ∧ (tt t).zero.cells.length = (tt t).size := by
 obtain ⟨i, z, h1, h2, h3, h4, h5, h6, h7⟩ := (tok t h).info
 exact ⟨z, fun w => by simp [zeroValue, typeInfo, h1, h4], h5, h6, h7⟩
theorem addr_add (b o j : Nat) : (⟨b, o, none⟩ : Addr).add j = ⟨b, o + j, none⟩ := by unfold Addr.add; split <;> simp_all
theorem mkV_sound (tok : TOK P tt) {t : Nat} (hk : (tt t).k ≠ .other) {own : Nat → Prop} {b o : Nat} {xs : List V} {vs : List Value} (hv : VRs own w β xs vs) (hl : xs.length = (tt t).size)
  (hc : ∀ i v, vs[i]? = some v → w.cell? ⟨b, o + i, none⟩ = some v) (h1 : (tt t).agg = false → xs.length = 1) :
  ∃ v, (loadVar t ⟨b, o, none⟩).run P w = .ok v w ∧ VR own w β (mkV (tt t) xs) v := by
 have hlen := hv.length
 cases ha : (tt t).agg with
 | true =>
  refine ⟨.agg vs.toArray, ?_, ?_⟩
  ·have h2 : (loadCells ⟨b, o, none⟩ vs.length).run P w = .ok vs.toArray w := run_loadCells_list (P := P) w _ vs (fun j v hj => by rw [addr_add]; exact hc j v hj)
   rw [hlen, hl] at h2
   simp [loadVar, Sem.run_bind, tok.isAgg hk, ha, tok.sizeOf hk, h2]
  ·simp only [mkV, ha, VR]
   exact ⟨vs, rfl, hv⟩
 | false =>
  have h1 := h1 ha
  match xs, vs, hv, hlen, h1 with
  | [x], [v], hv, _, _ =>
   refine ⟨v, ?_, ?_⟩
   ·have := hc 0 v rfl
    simp only [Nat.add_zero] at this
    simp [loadVar, Sem.run_bind, tok.isAgg hk, ha, this]
   ·simp only [VRs] at hv
    simpa only [mkV, ha] using hv.1
def ldT (t : TI) : Bool := match t.k with | .other => false | _ => (match t.agg with | true => true | false => Nat.beq t.size 1)
theorem ldT_k {t : TI} (h : ldT t = true) : t.k ≠ .other := by
 intro e; simp [ldT, e] at h
theorem ldT_one {t : TI} (h : ldT t = true) : t.agg = false → t.size = 1 := by
 intro e
 unfold ldT at h
 rw [e] at h
 cases hk : t.k <;> simp_all
theorem getV_length {l : List V} {off n : Nat} (h : off + n ≤ l.length) : (getV l off n).length = n := by
 simp [getV]; omega
theorem ld_same (tok : TOK P tt) (hh : HR O β w H) {t : Nat} (ht : ldT (tt t) = true) {x : V} {v : Value} (hv : VR (Own O β) w β x v) (h : (ldR (tt t) x true H).then K) :
  ∃ a u y, v = .pointer (some a) ∧ (loadVar t a).run P w = .ok u w ∧ K y H ∧ VR (Own O β) w β y u := by
 have hk := ldT_k ht
 have h1 := ldT_one ht
 unfold ldR at h
 split at h
 ·rename_i id ver off
  split at h
  ·rename_i ver' l hg
   simp only [Res.then, imp] at h
   obtain ⟨⟨rfl, hlen⟩, hK⟩ := h
   replace hlen := (lenOK_true hlen).1
   obtain ⟨b, base, cs, ty, e1, rfl, e3, e4, _, e6⟩ := live_cells hh hg hv hlen
   obtain ⟨u, hu, hr⟩ := mkV_sound tok (b := b) (o := base + off) hk e6 (getV_length hlen) (fun i v hi => by
    rw [cell_of_heap e3]
    rw [List.getElem?_take] at hi
    split at hi
    ·rw [List.getElem?_drop, Array.getElem?_toList] at hi; exact hi
    ·simp at hi) (fun ha => by rw [getV_length hlen]; exact h1 ha)
   exact ⟨_, u, _, rfl, hu, hK, hr⟩
  ·exact h.elim
 ·rename_i cells
  simp only [Res.then] at h
  obtain ⟨hlen, hK⟩ := h
  replace hlen := (lenOK_true hlen).1
  simp only [VR] at hv
  obtain ⟨b, off, l, rfl, hb, hn, hc, hr⟩ := hv
  obtain ⟨u, hu, hr⟩ := mkV_sound tok (b := b) (o := off) hk ((hr.drop 0).take (tt t).size) (by simp; omega) (fun i v hi => by
    rw [List.getElem?_take] at hi
    split at hi
    ·rw [List.drop_zero] at hi; exact hc i v hi
    ·simp at hi) (fun ha => by simp; have := h1 ha; omega)
  exact ⟨_, u, _, rfl, hu, hK, hr⟩
 ·exact h.elim
theorem ld_sound (tok : TOK P tt) (hh : HR O β w H) {t : Nat} (ht : ldT (tt t) = true) {x : V} {v : Value} (hv : VR (Own O β) w β x v) (h : (ldR (tt t) x true H).then K) : Good O β w ((Instr.loadAt t v).run P w) K := by
 obtain ⟨a, u, y, rfl, h1, h2, h3⟩ := ld_same tok hh ht hv h
 exact Good.same (by simp [Instr.loadAt, Instr.sureAddr, h1]) hh h2 h3
theorem putV_get {l cs : List V} : ∀ (off i : Nat), off + cs.length ≤ l.length → (putV l off cs)[i]? = if i < off then l[i]? else if i < off + cs.length then cs[i - off]? else l[i]? := by
 induction l generalizing cs with
 | nil =>
  intro off i h
  have h0 : off = 0 ∧ cs = [] := by
   simp at h
   exact ⟨by omega, h.2⟩
  obtain ⟨rfl, rfl⟩ := h0
  simp [putV]
 | cons x xs ih =>
  intro off i h
  cases off with
  | zero =>
   cases cs with
   | nil => simp [putV]
   | cons c cs =>
    simp only [putV]
    cases i with
    | zero => simp
    | succ i =>
     simp only [List.getElem?_cons_succ]
     rw [ih 0 i (by simp at h ⊢; omega)]
     simp
  | succ off =>
   simp only [putV]
   cases i with
   | zero => simp
   | succ i =>
    simp only [List.getElem?_cons_succ]
    rw [ih off i (by simp at h ⊢; omega)]
    simp [Nat.succ_add]
theorem putV_length {l cs : List V} : ∀ (off : Nat), off + cs.length ≤ l.length → (putV l off cs).length = l.length := by
 induction l generalizing cs with
 | nil =>
  intro off h
  have h0 : off = 0 ∧ cs = [] := by
   simp at h
   exact ⟨by omega, h.2⟩
  obtain ⟨rfl, rfl⟩ := h0
  simp [putV]
 | cons x xs ih =>
  intro off h
  cases off with
  | zero =>
   cases cs with
   | nil => simp [putV]
   | cons c cs => simp only [putV, List.length_cons]; rw [ih 0 (by simp at h ⊢; omega)]
  | succ off => simp only [putV, List.length_cons]; rw [ih off (by simp at h ⊢; omega)]
theorem HR.write (hh : HR O β w H) {id ver b base : Nat} {l l' : List V} {cs cs' : Array Value} {ty : TypeId} (hg : getO H id = .cells ver l) (hb : β[id]? = some (.blk b base cs.size ver))
  (hw : w.heap[b]? = some (.cells cs ty (0, 0))) (hs : cs'.size = cs.size) (hl : base + l'.length ≤ cs.size) (hr : VRs (Own O β) w β l' ((cs'.toList.drop base).take l'.length)) :
  HR O β (w.setRow b cs') (setO H id (.cells ver l')) ∧ Ext β w β (w.setRow b cs') := by
 have hid := getO_lt hg (by simp)
 have hid' : id < β.length := by rw [hh.len]; exact hid
 have hpl : place β id (.blk b base cs.size ver) = β := by
  apply List.ext_getElem?
  intro i
  rw [get_place (Nat.le_of_lt hid')]
  split
  ·rename_i e; rw [e, hb]
  ·rfl
 have hin : InB β b := ⟨id, _, hb, rfl⟩
 have he : Ext β w β (w.setRow b cs') := by
  refine ⟨by simp, fun k hk hn => setRow_other w b k cs' (fun e => hn (e ▸ hin)), rfl, rfl, rfl, fun _ h => .inl h, fun i l hi => by rw [hi]; exact l.le_refl⟩
 refine ⟨?_, he⟩
 have := HR.put (loc' := .blk b base cs.size ver) (o' := .cells ver l') (w' := w.setRow b cs') hh (Nat.le_of_lt hid) (by rw [hpl]; exact he) ?_ ?_ ?_
 ·rw [hpl] at this; rw [setO_place hid]; exact this
 ·intro j l2 b2 hj hj2 hb2
  refine setRow_other w b b2 cs' (fun e => hj ?_)
  subst e
  exact hh.inj j id l2 _ b2 hj2 hb hb2 rfl
 ·rw [hpl]
  simp only [ObR]
  exact .inr ⟨b, base, cs', ty, by rw [hs], setRow_heap w b cs cs' ty _ hw, by omega, VRs.ext he _ _ hr⟩
 ·intro b2 hb2
  simp [Pl.block?] at hb2
  subst hb2
  refine ⟨by simpa using hh.lt b hin, hh.apart b hin, fun j l2 hj hj2 hb2 => hj (hh.inj j id l2 _ b hj2 hb hb2 rfl)⟩
theorem splice_get {α : Type} (A us : List α) (p j : Nat) (h : p + us.length ≤ A.length) :
  (A.take p ++ us ++ A.drop (p + us.length))[j]? = if j < p then A[j]? else if j < p + us.length then us[j - p]? else A[j]? := by
 have hl : (A.take p).length = p := by simp; omega
 rw [List.append_assoc, List.getElem?_append, hl]
 split
 ·rename_i h1; rw [List.getElem?_take, if_pos h1]
 ·rename_i h1
  rw [List.getElem?_append]
  split
  ·rename_i h2; rw [if_pos (by omega)]
  ·rename_i h2
   rw [if_neg (by omega), List.getElem?_drop]
   congr 1; omega
theorem splice_VRs {own : Nat → Prop} {l ys : List V} {A us : List Value} {base off : Nat} (h : VRs own w β l ((A.drop base).take l.length)) (hy : VRs own w β ys us)
  (hA : base + l.length ≤ A.length) (hl : off + ys.length ≤ l.length) :
  VRs own w β (putV l off ys) (((A.take (base + off) ++ us ++ A.drop (base + off + us.length)).drop base).take (putV l off ys).length) := by
 have hul := hy.length
 have hpl := putV_length off hl
 refine VRs.of_get ?_ ?_
 ·rw [hpl]; simp; omega
 ·intro i a c ha hc
  rw [putV_get _ _ hl] at ha
  rw [hpl, List.getElem?_take] at hc
  split at hc
  ·rename_i hi
   rw [List.getElem?_drop, splice_get _ _ _ _ (by omega)] at hc
   by_cases h1 : i < off
   ·rw [if_pos h1] at ha; rw [if_pos (by omega)] at hc
    obtain ⟨v, hv, hr⟩ := h.get ha
    rw [List.getElem?_take, if_pos hi, List.getElem?_drop] at hv
    rw [hv] at hc; cases hc; exact hr
   ·rw [if_neg h1] at ha; rw [if_neg (by omega)] at hc
    by_cases h2 : i < off + ys.length
    ·rw [if_pos h2] at ha; rw [if_pos (by omega)] at hc
     obtain ⟨v, hv, hr⟩ := hy.get ha
     rw [show base + i - (base + off) = i - off by omega, hv] at hc
     cases hc; exact hr
    ·rw [if_neg h2] at ha; rw [if_neg (by omega)] at hc
     obtain ⟨v, hv, hr⟩ := h.get ha
     rw [List.getElem?_take, if_pos hi, List.getElem?_drop] at hv
     rw [hv] at hc; cases hc; exact hr
  ·simp at hc
theorem st_sound (tok : TOK P tt) (hh : HR O β w H) {t : Nat} (ht : (tt t).k ≠ .other) {x y : V} {v u : Value} (hv : VR (Own O β) w β x v) (hu : VR (Own O β) w β y u) (h : (stR (tt t) x y H).then K) :
  ∃ w', (Instr.storeAt t v u).run P w = .ok () w' ∧ ∃ H' β', K (.tup []) H' ∧ HR O β' w' H' ∧ Ext β w β' w' := by
 unfold stR at h
 split at h
 ·rename_i id ver off
  split at h
  ·rename_i ver' l hg
   simp only [Res.then] at h
   obtain ⟨⟨rfl, hsz, hone, hlen⟩, hK⟩ := h
   replace hone := (ones_true hone).1
   replace hlen := (lenOK_true hlen).1
   obtain ⟨b, base, cs, ty, e1, rfl, e3, e4, e5, _⟩ := live_cells hh hg hv hlen
   have hc := hu.cells hone
   have hcl := hc.length
   have h1 := hc.oneAll hone
   have hrun := run_storeCells_at (P := P) b (base + off) ty u.cells.toList 0 cs w e3 (by omega) h1
   simp only [Nat.add_zero] at hrun
   refine ⟨w.setRow b (cs.toList.take (base + off) ++ u.cells.toList ++ cs.toList.drop (base + off + u.cells.toList.length)).toArray, ?_, ?_⟩
   ·have : u.cells.size = (tt t).size := by rw [← hsz, ← hcl]; simp
    simp only [Instr.storeAt, Instr.sureAddr, storeVar, Sem.run_bind, Sem.run_pure, Result.andThen_ok, tok.sizeOf ht, this, ne_eq, not_true_eq_false, if_false]
    exact hrun
   ·have hvl : off + y.cells.length ≤ l.length := by omega
    have := HR.write hh (l' := putV l off y.cells) (cs' := (cs.toList.take (base + off) ++ u.cells.toList ++ cs.toList.drop (base + off + u.cells.toList.length)).toArray) hg e1 e3
     (by simp at hcl ⊢; omega) (by rw [putV_length _ hvl]; exact e4) (splice_VRs e5 hc (by simpa using e4) hvl)
    exact ⟨_, β, hK, this.1, this.2⟩
  ·exact h.elim
 ·exact h.elim
end
end Go.Vm
namespace Go.Vm
variable [GlobTab]
section
variable {O : Nat → Prop} {β : List Pl} {w : World} {H : List Ob} {K : V → List Ob → Prop} {P : Program} {tt : Nat → TI}
theorem toList_mk (l : List UInt8) : (ByteArray.mk l.toArray).toList = l := by
 rw [ByteArray.toList_eq]
theorem eqF_eqC {own : Nat → Prop} : ∀ {ks : List TK} {xs ys : List V} {vs us : List Value} {b : Bool}, eqF ks xs ys = some b → VRs own w β xs vs → VRs own w β ys us → eqC ks vs us = some b := by
 intro ks
 induction ks with
 | nil =>
  intro xs ys vs us b h hx hy
  cases xs <;> cases ys <;> simp [eqF] at h
  cases vs <;> cases us <;> simp [VRs] at hx hy
  simp [eqC, h]
 | cons k ks ih =>
  intro xs ys vs us b h hx hy
  cases k <;> cases xs <;> cases ys <;> (try (simp [eqF] at h; done))
  all_goals rename_i x xs y ys
  all_goals cases vs <;> cases us <;> (try (simp [VRs] at hx; done)) <;> (try (simp [VRs] at hy; done))
  all_goals
   rename_i v vs u us
   simp only [VRs] at hx hy
   cases x <;> cases y <;> (try (simp [eqF] at h; done))
   simp only [VR] at hx hy
   obtain ⟨rfl, hx⟩ := hx
   obtain ⟨rfl, hy⟩ := hy
  ·rename_i k k1 a k2 c
   simp only [eqF] at h
   split at h
   ·rename_i r e1 e2 e3
    obtain rfl := kindEq_iff.1 e1
    obtain rfl := kindEq_iff.1 e2
    have := ih e3 hx hy
    simp only [eqC, this, and_self, if_true, Option.map_some]
    cases xs with
    | nil =>
     simp only at h
     cases ks <;> cases ys <;> simp [eqF] at e3
     rw [e3]; simpa using h
    | cons _ _ => simpa using h
   ·simp at h
  ·simp only [eqF] at h
   split at h
   ·rename_i r e3
    have := ih e3 hx hy
    simp only [eqC, this, Option.map_some]
    cases xs with
    | nil =>
     simp only at h
     cases ks <;> cases ys <;> simp [eqF] at e3
     rw [e3]; simpa using h
    | cons _ _ => simpa using h
   ·simp at h
  ·rename_i a c
   simp only [eqF] at h
   have hbeq : ((ByteArray.mk a.toArray) == (ByteArray.mk c.toArray)) = (a == c) := by rw [beq_toListBytes, toList_mk, toList_mk]
   split at h
   ·rename_i r e3
    have := ih e3 hx hy
    simp only [eqC, this, Option.map_some, hbeq]
    cases xs with
    | nil =>
     simp only at h
     cases ks <;> cases ys <;> simp [eqF] at e3
     rw [e3]; simpa using h
    | cons _ _ => simpa using h
   ·simp at h
def simpleEq (d : TypeDesc) (v u : Value) : Option Bool :=
 match d, v, u with
 | .bool, .bool a, .bool b => some (a == b)
 | .pointer _, .pointer none, .pointer b => some b.isNone
 | .pointer _, .pointer (some _), .pointer none => some false
 | .slice _, .slice none _ _, .slice b _ _ => some b.isNone
 | .slice _, .slice (some _) _ _, .slice none _ _ => some false
 | .interface _, .nilIface, .iface _ _ => some false
 | .interface _, .iface _ _, .nilIface => some false
 | .map _ _, .map none, .map b => some b.isNone
 | .map _ _, .map (some _), .map none => some false
 | .func _ _ _, .nilFunc, .nilFunc => some true
 | .func _ _ _, .nilFunc, .func _ _ _ => some false
 | .func _ _ _, .func _ _ _, .nilFunc => some false
 | _, _, _ => none
theorem simpleEq_run {t : Nat} {d : TypeDesc} {v u : Value} {b : Bool} (hd : P.underlying t = some d) (h : simpleEq d v u = some b) (n : Nat) :
  (Op.equalIn (n + 1) t v u).run P w = .ok b w := by
 unfold simpleEq at h
 split at h <;> (try (simp at h; done)) <;> simp at h <;> subst h <;> simp [Op.equalIn, run_underlying hd]
theorem simpleEq_bin {t : Nat} {d : TypeDesc} {v u : Value} {b : Bool} (hd : P.underlying t = some d) (h : simpleEq d v u = some b) (ox oy : Operand) :
  (do eqGuard .eql t ox oy v u; binOp .eql t v u : Sem Value).run P w = .ok (.bool b) w ∧ (do eqGuard .neq t ox oy v u; binOp .neq t v u : Sem Value).run P w = .ok (.bool (!b)) w := by
 have hr : (Op.equal t v u).run P w = .ok b w := simpleEq_run hd h 9999
 unfold simpleEq at h
 split at h <;> (try (simp at h; done)) <;> simp only [eqGuard, binOp, Sem.run_bind, hr, Result.andThen_ok, Sem.run_pure, Bool.false_eq_true, if_false, Bool.not_true] <;> simp
theorem eqN_sound (tok : TOK P tt) {own : Nat → Prop} {t : Nat} {x y : V} {v u : Value} {p : Option Prop} {b : Bool} (hx : VR own w β x v) (hy : VR own w β y u) (h : eqN (tt t).k x y true = some (p, b)) (hp : ∀ q, p = some q → q) :
  ∃ d, P.underlying t = some d ∧ simpleEq d v u = some b := by
 have hk : (tt t).k ≠ .other := by intro e; rw [e] at h; simp [eqN] at h
 obtain ⟨d, hd, ha, hdk⟩ := (tok t hk).desc
 refine ⟨d, hd, ?_⟩
 clear hk ha hd
 revert hdk h
 generalize (tt t).k = k
 intro h hdk
 unfold eqN at h
 split at h <;> (try (simp at h; done)) <;> simp only [Option.some.injEq, Prod.mk.injEq] at h <;> obtain ⟨rfl, rfl⟩ := h <;> simp only [VR] at hx hy
 all_goals first
  | (subst hdk hx hy; rfl; done)
  | (subst hdk hx; obtain ⟨⟨a, rfl⟩, h2⟩ := hy; rfl; done)
  | (subst hdk hy; obtain ⟨⟨a, rfl⟩, h2⟩ := hx; rfl; done)
  | (subst hdk hx; obtain ⟨b1, o1, l1, rfl, h2⟩ := hy; rfl; done)
  | (subst hdk hy; obtain ⟨b1, o1, l1, rfl, h2⟩ := hx; rfl; done)
  | (obtain ⟨ms, rfl⟩ := hdk; subst hx; obtain ⟨y1, rfl, h2⟩ := hy; rfl; done)
  | (obtain ⟨ms, rfl⟩ := hdk; subst hy; obtain ⟨y1, rfl, h2⟩ := hx; rfl; done)
  | (obtain ⟨a1, b1, c1, rfl⟩ := hdk; subst hx hy; rfl; done)
  | (obtain ⟨a1, b1, c1, rfl⟩ := hdk; subst hx; obtain ⟨y1, y2, rfl, h2⟩ := hy; rfl; done)
  | (obtain ⟨a1, b1, c1, rfl⟩ := hdk; subst hy; obtain ⟨y1, y2, rfl, h2⟩ := hx; rfl; done)
  | (subst hdk; simp at hx hy; obtain ⟨rfl, _⟩ := hx; obtain ⟨rfl, _⟩ := hy; rfl; done)
  | skip
 ·subst hdk
  have hn := hp _ rfl
  simp only [imp] at hn
  simp at hy; obtain ⟨rfl, _⟩ := hy
  rcases hx with ⟨_, _, h0, _⟩ | ⟨_, b1, o1, c1, l1, rfl, _⟩
  ·exact absurd h0 hn
  ·rfl
 ·subst hdk
  have hn := hp _ rfl
  simp only [imp] at hn
  simp at hx; obtain ⟨rfl, _⟩ := hx
  rcases hy with ⟨_, _, h0, _⟩ | ⟨_, b1, o1, c1, l1, rfl, _⟩
  ·exact absurd h0 hn
  ·rfl
 ·subst hdk
  have hn := hp _ rfl
  simp only [imp] at hn
  simp at hy; obtain ⟨rfl, _⟩ := hy
  obtain ⟨⟨a, c, rfl, _, ha⟩, _⟩ := hx
  cases a with
  | none => simp at ha; exact absurd ha hn
  | some a => rfl
 ·subst hdk
  have hn := hp _ rfl
  simp only [imp] at hn
  simp at hx; obtain ⟨rfl, _⟩ := hx
  obtain ⟨⟨a, c, rfl, _, ha⟩, _⟩ := hy
  cases a with
  | none => simp at ha; exact absurd ha hn
  | some a => rfl
end
end Go.Vm
namespace Go.Vm
variable [GlobTab]
section
variable {O : Nat → Prop} {β : List Pl} {w : World} {H : List Ob} {K : V → List Ob → Prop} {P : Program} {tt : Nat → TI}
theorem VR.mkInt {own : Nat → Prop} {k : IntKind} {n : Int} : VR own w β (.int k n) (.int k n) := by simp only [VR]
theorem VR.mkBool {own : Nat → Prop} {b : Bool} : VR own w β (.bool b) (.bool b) := by simp only [VR]
theorem VR.mkStr {own : Nat → Prop} {s : List UInt8} : VR own w β (.str s) (.string ⟨s.toArray⟩) := by simp only [VR]
theorem Good.int {r : Result Value} {k : IntKind} {n : Int} (hh : HR O β w H) (hk : K (.int k n) H) (hr : r = .ok (.int k n) w) : Good O β w r K := Good.same hr hh hk VR.mkInt
theorem Good.bool {r : Result Value} {b : Bool} (hh : HR O β w H) (hk : K (.bool b) H) (hr : r = .ok (.bool b) w) : Good O β w r K := Good.same hr hh hk VR.mkBool
theorem Good.str {r : Result Value} {s : List UInt8} (hh : HR O β w H) (hk : K (.str s) H) (hr : r = .ok (.string ⟨s.toArray⟩) w) : Good O β w r K := Good.same hr hh hk VR.mkStr
def binT (t : TI) (x : V) : Bool :=
 match x with
 | .agg _ => (match t.k, t.flat with | .other, _ => false | _, [] => false | _, _ :: _ => t.agg)
 | _ => true
theorem size_mk (l : List UInt8) : (ByteArray.mk l.toArray).size = l.length := by simp [ByteArray.size]
theorem append_mk (a b : List UInt8) : (ByteArray.mk a.toArray) ++ (ByteArray.mk b.toArray) = ByteArray.mk (a ++ b).toArray := by
 apply ByteArray.ext
 rw [ByteArray.data_append]
 simp
theorem add_str_run {t : Nat} {ox oy : Operand} (a b : List UInt8) (h : a.length + b.length ≤ 4611686018427387904) :
  (do eqGuard .add t ox oy (.string ⟨a.toArray⟩) (.string ⟨b.toArray⟩); binOp .add t (.string ⟨a.toArray⟩) (.string ⟨b.toArray⟩) : Sem Value).run P w = .ok (.string ⟨(a ++ b).toArray⟩) w := by
 have hmax : ¬ ((a.length + b.length : Nat) : Int) > IntKind.i64.max := by
  have : IntKind.i64.max = 9223372036854775807 := by decide
  omega
 simp only [eqGuard, binOp, Op.stringOp, Sem.run_bind, size_mk, hmax, if_false, append_mk]
 simp
theorem ifcS_run (tok : TOK P tt) {own : Nat → Prop} {t u ti : Nat} {x y : V} {v w' : Value} {b : Bool} {ms : _} (hd : P.underlying ti = some (.interface ms)) (hx : VR own w β x v) (hy : VR own w β y w') (h : ifcS tt t x u y = some b) (n : Nat) :
  (Op.equalIn (n + 2) ti (.iface t v) (.iface u w')).run P w = .ok b w := by
 unfold ifcS at h
 split at h
 ·rename_i hb
  cases h
  have hne : t ≠ u := fun e => by subst e; rw [Nat.beq_refl] at hb; cases hb
  simp [Op.equalIn, run_underlying hd, hne]
 ·rename_i hb
  have he := Nat.eq_of_beq_eq_true hb
  subst he
  split at h
  ·rename_i hk
   cases h
   simp only [VR] at hx hy
   subst hx hy
   obtain ⟨i, hi, hc⟩ := (tok t (by rw [hk]; simp)).cmp hk
   obtain ⟨d2, hd2, _, hdk⟩ := (tok t (by rw [hk]; simp)).desc
   rw [hk] at hdk
   simp only at hdk
   subst hdk
   have hti : (typeInfo t).run P w = .ok i w := by simp [typeInfo, hi]
   simp [Op.equalIn, run_underlying hd, run_underlying hd2, hti, hc, beq_toListBytes, toList_mk]
  ·rename_i hk
   split at h
   ·rename_i hcm
    cases h
    simp only [VR] at hx hy
    obtain ⟨l, rfl, hl⟩ := hx
    obtain ⟨l', rfl, hl'⟩ := hy
    obtain rfl := List.eq_nil_of_length_eq_zero hl.length
    obtain rfl := List.eq_nil_of_length_eq_zero hl'.length
    obtain ⟨⟨i, hi, hc⟩, hst, _⟩ := (tok t (by rw [hk]; simp)).key hcm
    obtain ⟨d2, hd2, _, hdk⟩ := (tok t (by rw [hk]; simp)).desc
    rw [hk] at hdk
    simp only at hdk
    obtain ⟨fields, rfl, hfs⟩ := hdk
    have hfs' : fields.toList = [] := by simpa using hfs
    have hti : (typeInfo t).run P w = .ok i w := by simp [typeInfo, hi]
    have hf : P.fieldsOf t = fields := by simp [Program.fieldsOf, hd2]
    have hin : (Op.equalIn (n + 1) t (.agg #[]) (.agg #[])).run P w = .ok true w := by
     rw [run_equalIn_struct w n t _ _ (by rw [hf]; exact hd2) hst, hf, hfs']
     simp [Op.eqFields]
    show (Op.equalIn ((n + 1) + 1) ti (.iface t (.agg [].toArray)) (.iface t (.agg [].toArray))).run P w = .ok true w
    generalize n + 1 = m at hin
    simp [Op.equalIn, run_underlying hd, hti, hc, hin]
   ·cases h
  ·cases h
theorem ifc_sound (tok : TOK P tt) (hh : HR O β w H) {op : BinOp} {t : Nat} {ox oy : Operand} {x y : V} {v u : Value} {b : Bool}
  (hv : VR (Own O β) w β x v) (hu : VR (Own O β) w β y u) (h : ifcEq tt (tt t).k op x y = some b) (hK : K (.bool b) H) :
  Good O β w ((do eqGuard op t ox oy v u; binOp op t v u : Sem Value).run P w) K := by
 unfold ifcEq at h
 split at h
 ·rename_i hk
  obtain ⟨d, hd, _, hdk⟩ := (tok t (by rw [hk]; simp)).desc
  rw [hk] at hdk
  simp only at hdk
  obtain ⟨ms, rfl⟩ := hdk
  split at h
  ·simp only [VR] at hv hu
   obtain ⟨a, rfl, ha⟩ := hv
   obtain ⟨c, rfl, hc⟩ := hu
   have hr := ifcS_run tok hd ha hc h 9998
   refine Good.same (v := .bool b) ?_ hh hK (by simp only [VR])
   simp [eqGuard, binOp, Op.equal, Op.maxDepth, hr]
  ·simp only [VR] at hv hu
   obtain ⟨a, rfl, ha⟩ := hv
   obtain ⟨c, rfl, hc⟩ := hu
   split at h
   ·rename_i b' hb'
    cases h
    have hr := ifcS_run tok hd ha hc hb' 9998
    refine Good.same (v := .bool (!b')) ?_ hh hK (by simp only [VR])
    simp [eqGuard, binOp, Op.equal, Op.maxDepth, hr]
   ·cases h
  ·cases h
 ·cases h
theorem bin_sound (tok : TOK P tt) (hh : HR O β w H) {op : BinOp} {t : Nat} {ox oy : Operand} {x y : V} {v u : Value} (ht : binT (tt t) x = true)
  (hv : VR (Own O β) w β x v) (hu : VR (Own O β) w β y u) (h : (binR (tt t) op x y true H).then K) :
  Good O β w ((do eqGuard op t ox oy v u; binOp op t v u : Sem Value).run P w) K := by
 unfold binR at h
 split at h
 ·simp only [VR] at hv hu; subst hv hu
  simp only [Res.then, imp] at h
  obtain ⟨h1, hk⟩ := h
  refine Good.int hh hk ?_
  rename_i b
  have : ¬ b < 0 := by omega
  simp [eqGuard, binOp, Op.shift, ishl, this]
 ·simp only [VR] at hv hu; subst hv hu
  simp only [Res.then, imp] at h
  obtain ⟨h1, hk⟩ := h
  refine Good.int hh hk ?_
  rename_i b
  have : ¬ b < 0 := by omega
  simp [eqGuard, binOp, Op.shift, ishr, this]
 ·simp only [VR] at hv hu; subst hv hu
  split at h
  ·exact h.elim
  ·rename_i e
   obtain rfl := kindEq_iff.1 e
   cases op <;> simp only [Res.then, imp] at h
   case quo => exact Good.int hh h.2 (by simp [eqGuard, binOp, Op.intDiv, h.1])
   case rem => exact Good.int hh h.2 (by simp [eqGuard, binOp, Op.intDiv, h.1])
   all_goals first
    | exact h.elim
    | (refine Good.int hh h ?_; simp [eqGuard, binOp, Op.intArith]; done)
    | (refine Good.int hh h ?_; simp [eqGuard, binOp]; rfl; done)
    | (refine Good.bool hh h ?_; simp [eqGuard, binOp, Op.intCmp]; done)
 ·simp only [VR] at hv hu; subst hv hu
  cases op <;> simp only [Res.then, imp] at h
  case add => exact Good.str hh h.2 (add_str_run _ _ h.1)
  all_goals first
   | exact h.elim
   | exact Good.bool hh h (by simp only [eqGuard, binOp, Op.stringOp, Sem.run_bind, toList_mk]; simp)
 · -- two aggregates, ==
  rename_i xs ys
  split at h
  ·rename_i b hb
   simp only [Res.then] at h
   simp only [VR] at hv hu
   obtain ⟨l, rfl, hl⟩ := hv
   obtain ⟨m, rfl, hm⟩ := hu
   have hag : (tt t).agg = true ∧ (tt t).k ≠ .other ∧ (tt t).flat ≠ [] := by
    simp only [binT] at ht
    split at ht
    ·simp at ht
    ·simp at ht
    ·rename_i hf hne; exact ⟨ht, fun e => hne e, by rw [hf]; simp⟩
   have he := (tok t hag.2.1).eq hag.1 hag.2.2 w l m b (eqF_eqC hb hl hm)
   refine Good.bool hh h ?_
   rw [Sem.run_bind, run_eqGuard_agg w .eql t ox oy _ _ ((tok t hag.2.1).guard hag.1 hag.2.2)]
   simp [binOp, he]
  ·exact h.elim
 ·rename_i xs ys
  split at h
  ·rename_i b hb
   simp only [Res.then] at h
   simp only [VR] at hv hu
   obtain ⟨l, rfl, hl⟩ := hv
   obtain ⟨m, rfl, hm⟩ := hu
   have hag : (tt t).agg = true ∧ (tt t).k ≠ .other ∧ (tt t).flat ≠ [] := by
    simp only [binT] at ht
    split at ht
    ·simp at ht
    ·simp at ht
    ·rename_i hf hne; exact ⟨ht, fun e => hne e, by rw [hf]; simp⟩
   have he := (tok t hag.2.1).eq hag.1 hag.2.2 w l m b (eqF_eqC hb hl hm)
   refine Good.bool hh h ?_
   rw [Sem.run_bind, run_eqGuard_agg w .neq t ox oy _ _ ((tok t hag.2.1).guard hag.1 hag.2.2)]
   simp [binOp, he]
  ·exact h.elim
 ·split at h
  ·rename_i b hb
   obtain ⟨d, hd, hs⟩ := eqN_sound tok hv hu hb (by simp)
   exact Good.bool hh h (simpleEq_bin hd hs ox oy).1
  ·rename_i p b hb
   obtain ⟨hp, hk⟩ := h
   obtain ⟨d, hd, hs⟩ := eqN_sound tok hv hu hb (by rintro q hq; cases hq; exact hp)
   exact Good.bool hh hk (simpleEq_bin hd hs ox oy).1
  ·exact h.elim
 ·split at h
  ·rename_i b hb
   obtain ⟨d, hd, hs⟩ := eqN_sound tok hv hu hb (by simp)
   exact Good.bool hh h (simpleEq_bin hd hs ox oy).2
  ·rename_i p b hb
   obtain ⟨hp, hk⟩ := h
   obtain ⟨d, hd, hs⟩ := eqN_sound tok hv hu hb (by rintro q hq; cases hq; exact hp)
   exact Good.bool hh hk (simpleEq_bin hd hs ox oy).2
  ·exact h.elim
 ·exact h.elim
theorem un_sound (hh : HR O β w H) {op : UnOp} {x : V} {v : Value} (hv : VR (Own O β) w β x v) (h : (unR op x H).then K) : Good O β w ((Op.unary op v).run P w) K := by
 unfold unR at h
 split at h
 ·simp only [VR] at hv; subst hv; exact Good.bool hh h (by simp [Op.unary])
 ·simp only [VR] at hv; subst hv; exact Good.int hh h (by simp [Op.unary, Op.intArith])
 ·simp only [VR] at hv; subst hv; exact Good.int hh h (by simp [Op.unary, Op.intBits, ibits])
 ·exact h.elim
theorem conv_sound (tok : TOK P tt) (hh : HR O β w H) {s t : Nat} {x : V} {v : Value} (hs : (tt s).k ≠ .other) (hv : VR (Own O β) w β x v) (h : (convR (tt s) (tt t) x H).then K) : Good O β w ((convert s t v).run P w) K := by
 obtain ⟨d, hd, ha, hdk⟩ := (tok s hs).desc
 unfold convR at h
 split at h
 ·rename_i k k' n hk
  simp only [VR] at hv; subst hv
  obtain ⟨d2, hd2, ha2, hdk2⟩ := (tok t (by rw [hk]; simp)).desc
  rw [hk] at hdk2
  simp only at hdk2
  subst hdk2
  refine Good.int hh h ?_
  simp only [convert, Sem.run_bind, run_underlying hd, run_underlying hd2, Result.andThen_ok]
  cases d <;> simp [Conv.intToInt]
 ·rename_i l hk
  split at h
  ·rename_i hk2
   simp only [VR] at hv; subst hv
   obtain ⟨d2, hd2, ha2, hdk2⟩ := (tok t (by rw [hk]; simp)).desc
   rw [hk] at hdk2; rw [hk2] at hdk
   simp only at hdk2 hdk
   subst hdk2 hdk
   exact Good.str hh h (by simp [convert, run_underlying hd, run_underlying hd2])
  ·exact h.elim
 ·exact h.elim
end
end Go.Vm
