/-
  Chapter 40: what holds in a valid topology, in plain words.
-/
import Derived.Test.YtpjbeoilmmhinaaL45
set_option maxRecDepth 100000
set_option linter.all false
namespace Go.Proofs.Ytpjbeoilmmhinaa
open Go.Vm

theorem firstAt_spec {α : Type} {f : α → Bool} : ∀ {l : List α} {j : Nat}, (firstAt f l j = (0, false) ∧ ∀ x ∈ l, f x = false) ∨ ∃ k, ∃ h : k < l.length, firstAt f l j = (((j + k : Nat) : Int), true) ∧ f l[k] = true
  | [], j => .inl ⟨rfl, fun x h => by simp at h⟩
  | x :: l, j => by
    unfold firstAt
    by_cases hx : f x = true
    · rw [if_pos hx]
      exact .inr ⟨0, by simp, rfl, by simpa using hx⟩
    · rw [if_neg hx]
      rcases @firstAt_spec α f l (j + 1) with ⟨h1, h2⟩ | ⟨k, h0, h1, h2⟩
      · refine .inl ⟨h1, fun y hy => ?_⟩
        rcases List.mem_cons.1 hy with rfl | hy
        · simpa using hx
        · exact h2 y hy
      · exact .inr ⟨k + 1, by simpa using h0, by rw [h1, show j + 1 + k = j + (k + 1) by omega], by simpa using h2⟩

theorem dup_nodup : ∀ {l pre : List (Int × Int)}, dup pre l = false → l.Nodup ∧ ∀ a ∈ l, a ∉ pre
  | [], pre, _ => ⟨List.nodup_nil, fun a h => by simp at h⟩
  | x :: l, pre, h => by
    rw [dup, Bool.or_eq_false_iff] at h
    obtain ⟨h1, h2⟩ := dup_nodup h.2
    refine ⟨List.nodup_cons.2 ⟨fun hx => h2 x hx (by simp), h1⟩, fun a ha => ?_⟩
    rcases List.mem_cons.1 ha with rfl | ha
    · intro hp
      have := h.1
      simp only [List.any_eq_false, decide_eq_true_eq] at this
      exact this a hp rfl
    · exact fun hp => h2 a ha (by simp [hp])

structure Valid (t : Tp) : Prop where
  pos : 0 < t.ports.length
  small : t.ports.length ≤ 16
  ports : ∀ x ∈ t.ports, 1 ≤ x ∧ x ≤ 16
  nodup : (ends t).Nodup
  link : ∀ l ∈ t.links, ∃ x y : Nat, l.a.1 = x ∧ l.b.1 = y ∧ x < t.ports.length ∧ y < t.ports.length ∧ x ≠ y

theorem chk_valid {t : Tp} (h : chk t = 0) : Valid t := by
  have hs := chk_small h
  have h1 : chk1 t = 0 := by
    unfold chk at h
    repeat' split at h
    all_goals first | omega | exact h
  unfold chk1 at h1
  split at h1
  · omega
  rename_i hp
  split at h1
  · omega
  split at h1
  · omega
  rename_i hd
  refine ⟨hs.1, hs.2.1, ?_, (dup_nodup (by simpa using hd)).1, fun l hl => chk_links h hl⟩
  intro x hx
  simp only [List.any_eq_true, not_exists, not_and, Bool.not_eq_true] at hp
  have := hp x hx
  simp only [badN, Bool.or_eq_false_iff, decide_eq_false_iff_not] at this
  omega

theorem ends_at {l : List Lk} : ∀ {i : Nat} (h : i < l.length), (endsOf l)[2 * i]? = some l[i].a ∧ (endsOf l)[2 * i + 1]? = some l[i].b := by
  induction l with
  | nil => intro i h; simp at h
  | cons x l ih =>
    intro i h
    cases i with
    | zero => exact ⟨rfl, rfl⟩
    | succ i =>
      have := ih (i := i) (by simpa using h)
      rw [show 2 * (i + 1) = 2 * i + 1 + 1 by omega]
      simpa [endsOf] using this

theorem nodup_at {α : Type} {l : List α} (h : l.Nodup) {i j : Nat} {x : α} (hi : l[i]? = some x) (hj : l[j]? = some x) : i = j := by
  obtain ⟨h1, h2⟩ := List.getElem?_eq_some_iff.1 hi
  obtain ⟨h3, h4⟩ := List.getElem?_eq_some_iff.1 hj
  have := List.pairwise_iff_getElem.1 h
  rcases Nat.lt_trichotomy i j with hlt | heq | hgt
  · exact absurd (h2.trans h4.symm) (this i j h1 h3 hlt)
  · exact heq
  · exact absurd (h4.trans h2.symm) (this j i h3 h1 hgt)

section
variable {t : Tp} (hv : Valid t)
include hv
theorem Valid.links : (endsOf t.links).Nodup := (List.nodup_append.1 hv.nodup).1
theorem Valid.same {i j : Nat} (hi : i < t.links.length) (hj : j < t.links.length) {p : Int × Int} (h1 : t.links[i].a = p ∨ t.links[i].b = p) (h2 : t.links[j].a = p ∨ t.links[j].b = p) : i = j := by
  obtain ⟨a1, a2⟩ := ends_at hi
  obtain ⟨b1, b2⟩ := ends_at hj
  rcases h1 with h1 | h1 <;> rcases h2 with h2 | h2
  · rw [h1] at a1; rw [h2] at b1; have := nodup_at hv.links a1 b1; omega
  · rw [h1] at a1; rw [h2] at b2; have := nodup_at hv.links a1 b2; omega
  · rw [h1] at a2; rw [h2] at b1; have := nodup_at hv.links a2 b1; omega
  · rw [h1] at a2; rw [h2] at b2; have := nodup_at hv.links a2 b2; omega
theorem Valid.apart {i : Nat} (hi : i < t.links.length) : t.links[i].a ≠ t.links[i].b := by
  intro h
  obtain ⟨a1, a2⟩ := ends_at hi
  rw [h] at a1
  have := nodup_at hv.links a1 a2
  omega
theorem Valid.host {i : Nat} (hi : i < t.links.length) {p : Int × Int} (h1 : t.links[i].a = p ∨ t.links[i].b = p) : p ∉ t.hosts := by
  intro hp
  have := (List.nodup_append.1 hv.nodup).2.2
  obtain ⟨a1, a2⟩ := ends_at hi
  rcases h1 with h1 | h1
  · rw [h1] at a1
    exact this p (List.mem_of_getElem? a1) p hp rfl
  · rw [h1] at a2
    exact this p (List.mem_of_getElem? a2) p hp rfl
theorem Valid.linkIs {k : Nat} (hk : k < t.links.length) {p : Int × Int} (h : t.links[k].a = p ∨ t.links[k].b = p) : linkAt t p = ((k : Int), true) := by
  unfold Go.Proofs.Ytpjbeoilmmhinaa.linkAt
  rcases @firstAt_spec _ (fun l => decide (l.a = p) || decide (l.b = p)) t.links 0 with ⟨_, h2⟩ | ⟨j, h0, h1, h2⟩
  · have := h2 _ (List.getElem_mem hk)
    simp only [Bool.or_eq_false_iff, decide_eq_false_iff_not] at this
    rcases h with h | h
    · exact absurd h this.1
    · exact absurd h this.2
  · simp only [Bool.or_eq_true, decide_eq_true_eq] at h2
    obtain rfl := hv.same hk h0 h h2
    rw [h1, Nat.zero_add]
theorem Valid.hostIs {k : Nat} (hk : k < t.links.length) {p : Int × Int} (h : t.links[k].a = p ∨ t.links[k].b = p) : (hostAt t p).2 = false := by
  unfold Go.Proofs.Ytpjbeoilmmhinaa.hostAt
  rcases @firstAt_spec _ (fun h => decide (h = p)) t.hosts 0 with ⟨h1, _⟩ | ⟨j, h0, h1, h2⟩
  · rw [h1]
  · simp only [decide_eq_true_eq] at h2
    exact absurd (h2 ▸ List.getElem_mem h0) (hv.host hk h)

/-- a port: no link; a link that is down; a link that is up, the other end q -/
theorem Valid.portIs (h0 : chk t = 0) (p : Int × Int) :
    (linkAt t p = (0, false) ∧ peer t p = ((0, 0), 8)) ∨
    (∃ k, ∃ hk : k < t.links.length, linkAt t p = ((k : Int), true) ∧ (hostAt t p).2 = false ∧ t.links[k].dn = true ∧ peer t p = ((0, 0), 20)) ∨
    (∃ k, ∃ hk : k < t.links.length, ∃ q : Int × Int, ∃ x y : Nat, linkAt t p = ((k : Int), true) ∧ (hostAt t p).2 = false ∧ t.links[k].dn = false ∧ peer t p = (q, 0) ∧ peer t q = (p, 0) ∧
      p.1 = x ∧ q.1 = y ∧ x < t.ports.length ∧ y < t.ports.length ∧ x ≠ y ∧ lnk x y t.links[k] = true ∧ lnk y x t.links[k] = true) := by
  have hc : ¬ chk t ≠ 0 := fun h => h h0
  rcases @firstAt_spec _ (fun l => decide (l.a = p) || decide (l.b = p)) t.links 0 with ⟨h1, h2⟩ | ⟨k, hk, h1, h2⟩
  · refine .inl ⟨h1, ?_⟩
    unfold peer
    rw [if_neg hc, show linkAt t p = (0, false) from h1]
  · simp only [Bool.or_eq_true, decide_eq_true_eq] at h2
    have hl := hv.linkIs hk h2
    have hh := hv.hostIs hk h2
    have hg : t.links.getD k default = t.links[k] := by rw [List.getD_eq_getElem?_getD, List.getElem?_eq_getElem hk]; rfl
    cases hd : t.links[k].dn with
    | true =>
      refine .inr (.inl ⟨k, hk, hl, hh, hd, ?_⟩)
      unfold peer
      rw [if_neg hc, hl]
      simp only [Int.toNat_natCast, hg, hd, if_true]
    | false =>
      obtain ⟨x, y, hx, hy, hxn, hyn, hxy⟩ := hv.link _ (List.getElem_mem hk)
      have hab := hv.apart hk
      right; right
      have key : ∀ q, t.links[k].a = q ∨ t.links[k].b = q → peer t q = (if t.links[k].a = q then t.links[k].b else t.links[k].a, 0) := by
        intro q hq
        unfold peer
        rw [if_neg hc, hv.linkIs hk hq]
        simp only [Int.toNat_natCast, hg, hd]
        simp only [Bool.false_eq_true, if_false]
        split <;> rfl
      rcases h2 with h2 | h2
      · refine ⟨k, hk, t.links[k].b, x, y, hl, hh, hd, ?_, ?_, by rw [← h2]; exact hx, hy, hxn, hyn, hxy, ?_, ?_⟩
        · rw [key p (.inl h2), if_pos h2]
        · rw [key _ (.inr rfl), if_neg hab, h2]
        · simp [lnk, hd, hx, hy]
        · simp [lnk, hd, hx, hy]
      · refine ⟨k, hk, t.links[k].a, y, x, hl, hh, hd, ?_, ?_, by rw [← h2]; exact hy, hx, hyn, hxn, fun h => hxy h.symm, ?_, ?_⟩
        · rw [key p (.inr h2), if_neg (by rw [← h2]; exact hab)]
        · rw [key _ (.inl rfl), if_pos rfl, h2]
        · simp [lnk, hd, hx, hy]
        · simp [lnk, hd, hx, hy]
end
theorem row_any {t : Tp} {x y : Nat} (hy : y < t.ports.length) {k : Nat} (hk : k < t.links.length) (h : lnk x y t.links[k] = true) : ((row t x t.ports.length).any fun z => decide (z = (y : Int))) = true := by
  rw [List.any_eq_true]
  refine ⟨(y : Int), ?_, by simp⟩
  unfold row
  refine List.mem_map.2 ⟨y, List.mem_filter.2 ⟨List.mem_range.2 hy, ?_⟩, rfl⟩
  exact List.any_eq_true.2 ⟨_, List.getElem_mem hk, h⟩
end Go.Proofs.Ytpjbeoilmmhinaa
