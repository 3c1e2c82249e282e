/-
  Joined by a program from the texts Wdf Rel Wl1 Wl2 Wl3 Wl4 Wl5 Wl6.
-/
import Derived.Test.YtafongdfnpnneaaGreatDoorMd
/- Chapter 53: the reference's world in plain terms. -/
set_option maxRecDepth 100000
set_option maxHeartbeats 4000000
set_option linter.all false
namespace Go.Proofs.YtafongdfnpnneaaGreatDoor.Top
open Go.Vm

def encQ (p : Pk) : List V := [.int .i64 p.st, .int .i64 p.at_.1, .int .i64 p.at_.2, .int .i64 p.host, slH p.hops]
structure Wd where
  t : Tp
  ps : List Pk
def slQ (l : List Pk) : V := .sl false (l.flatMap encQ) l.length
def encW (w : Wd) : List V := [slI w.t.ports, slL w.t.links, slP w.t.hosts, .sl false (w.ps.flatMap encQ) w.ps.length]
theorem lenQ (x : Pk) : (encQ x).length = 5 := rfl
theorem bel_Q {n : Nat} (x : Pk) : belAll n (encQ x) = true := by simp [encQ, bel_slH]
theorem bel_Qs {n : Nat} (l : List Pk) : belAll n (l.flatMap encQ) = true := belAll_flat (fun x => bel_Q x) l
theorem bel_W {n : Nat} (w : Wd) : belAll n (encW w) = true := by simp [encW, bel_slI, bel_slL, bel_slP, bel_Qs]
theorem ones_Q {g : Bool} {p : Prop} : ∀ {xs : List Pk}, ones g (xs.flatMap encQ) p = p
  | [] => rfl
  | x :: xs => by simp only [List.flatMap_cons, encQ, slH, List.cons_append, List.nil_append, ones, V.one]; exact ones_Q
theorem take_Q {xs : List Pk} : (xs.flatMap encQ).take (xs.length * 5) = xs.flatMap encQ := by
  rw [List.take_of_length_le (by rw [len_flat lenQ]; exact Nat.le_refl _)]
structure Wd.fit (w : Wd) : Prop where
  t : w.t.fit
  n : w.ps.length ≤ 4000000
  hops : ∀ p ∈ w.ps, p.hops.length ≤ 4000000
  ports : w.t.ports.length ≤ 4000000000
def isBusy (p : Pk) : Bool := decide (p.st = 2) || decide (p.st = 3)
def busyW (w : Wd) : Int := if (firstAt isBusy w.ps 0).2 = true then (firstAt isBusy w.ps 0).1 else -1
/-- the packet of an event -/
def pkAt (w : Wd) (e : Ev) : Pk := w.ps.getD e.a.toNat default
def pkW (w : Wd) (e : Ev) : Int :=
  if (pkAt w e).st = 4 then 25
  else if e.k = 3 ∧ ((pkAt w e).st ≠ 2 ∨ (pkAt w e).host ≠ e.b) then 14
  else if e.k = 4 ∧ ((pkAt w e).st ≠ 3 ∨ (pkAt w e).at_ ≠ (e.b, e.c)) then 14
  else if e.k = 2 ∧ ((pkAt w e).st ≠ 1 ∨ (pkAt w e).at_.1 ≠ e.b) then 14
  else if e.k = 2 ∧ (e.c < -1 ∨ 255 < e.c) then 9 else 0
def ckW (w : Wd) (e : Ev) : Int :=
  if e.k < 1 ∨ 6 < e.k then 11
  else if 0 ≤ busyW w ∧ (e.a ≠ busyW w ∨ (e.k ≠ 3 ∧ e.k ≠ 4)) then 14
  else if e.k = 1 then (if e.b < 0 ∨ (w.t.hosts.length : Int) ≤ e.b then 9 else if e.a ≠ w.ps.length then 14 else 0)
  else if e.k = 5 then (if e.a < 1 ∨ 3 < e.a ∨ e.b < 0 then 9 else 0)
  else if e.k = 6 then (if e.a < 0 ∨ (w.t.links.length : Int) ≤ e.a then 8 else if e.b ≠ 0 ∧ e.b ≠ 1 then 9 else 0)
  else if e.a < 0 ∨ (w.ps.length : Int) ≤ e.a then 8 else pkW w e
/-- a packet that is forwarded -/
def fwW (t : Tp) (p : Pk) (port : Int) : Pk :=
  if port < 0 then ⟨4, (0, 0), 0, p.hops ++ [(p.at_.1, p.at_.2, port)]⟩
  else if (hostAt t (p.at_.1, port)).2 = true then ⟨2, (p.at_.1, port), (hostAt t (p.at_.1, port)).1, p.hops ++ [(p.at_.1, p.at_.2, port)]⟩
  else if (peer t (p.at_.1, port)).2 = 0 then ⟨1, (peer t (p.at_.1, port)).1, 0, p.hops ++ [(p.at_.1, p.at_.2, port)]⟩
  else ⟨3, (p.at_.1, port), 0, p.hops ++ [(p.at_.1, p.at_.2, port)]⟩
def nextW (w : Wd) (e : Ev) : Wd :=
  if e.k = 1 then { w with ps := w.ps ++ [⟨1, w.t.hosts.getD e.b.toNat (0, 0), 0, []⟩] }
  else if e.k = 2 then { w with ps := w.ps.set e.a.toNat (fwW w.t (pkAt w e) e.c) }
  else if e.k = 3 ∨ e.k = 4 then { w with ps := w.ps.set e.a.toNat ⟨4, (0, 0), 0, (pkAt w e).hops⟩ }
  else if e.k = 6 then { w with t := (setL w.t e.a (decide (e.b = 1))).1 }
  else w
theorem ckR_fw {r : Rn} {e : Ev} (hc : ckR r e = 0) (h : e.k = 2) : (r.pk e.a.toNat).st ≠ 3 ∧ (r.pk e.a.toNat).at_.1 = e.b := by
  unfold ckR at hc
  split at hc
  · simp at hc
  split at hc
  · rename_i hk hp
    split at hc
    · rename_i he
      unfold endsR at he
      split at he
      · simp at he
      split at he <;> simp only [Bool.and_eq_true, decide_eq_true_eq] at he <;> omega
    · simp at hc
  · rw [if_neg (by omega), if_neg (by omega), if_neg (by omega)] at hc
    unfold ckP at hc
    split at hc
    · simp at hc
    split at hc
    · simp at hc
    rename_i h3
    split at hc
    · simp at hc
    rename_i h4
    refine ⟨h3, ?_⟩
    apply Decidable.byContradiction
    intro hne
    exact h4 (.inr hne)
theorem ckR_end {r : Rn} {e : Ev} (hc : ckR r e = 0) (h : e.k = 3 ∨ e.k = 4) : e.a = r.pend := by
  unfold ckR at hc
  split at hc
  · simp at hc
  split at hc
  · split at hc
    · rename_i he
      unfold endsR at he
      split at he
      · simp at he
      · rename_i ha; exact Decidable.not_not.1 ha
    · simp at hc
  · rw [if_neg (by omega), if_neg (by omega), if_neg (by omega)] at hc
    unfold ckP at hc
    split at hc
    · simp at hc
    split at hc
    · simp at hc
    split at hc
    · simp at hc
    rename_i h4
    exact absurd (.inl (by omega)) h4
theorem ckR_c {r : Rn} {e : Ev} (hc : ckR r e = 0) (h : e.k = 2) : -1 ≤ e.c := by
  unfold ckR at hc
  split at hc
  · simp at hc
  split at hc
  · rename_i hk hp
    split at hc
    · rename_i he
      unfold endsR at he
      split at he
      · simp at he
      split at he <;> simp only [Bool.and_eq_true, decide_eq_true_eq] at he <;> omega
    · simp at hc
  · rw [if_neg (by omega), if_neg (by omega), if_neg (by omega)] at hc
    unfold ckP at hc
    split at hc
    · simp at hc
    split at hc
    · simp at hc
    split at hc
    · simp at hc
    split at hc
    · simp at hc
    · omega
theorem ckR_pe {r : Rn} {e : Ev} (hc : ckR r e = 0) (h : e.k = 3 ∨ e.k = 4) : 0 ≤ r.pend := by
  apply Decidable.byContradiction
  intro hn
  unfold ckR at hc
  split at hc
  · simp at hc
  rw [if_neg (by omega), if_neg (by omega), if_neg (by omega)] at hc
  unfold ckP at hc
  split at hc
  · simp at hc
  split at hc
  · simp at hc
  split at hc
  · simp at hc
  rename_i h4
  exact h4 (.inl (by omega))
theorem ckR_lk {r : Rn} {e : Ev} (hc : ckR r e = 0) (h : e.k = 6) : 0 ≤ e.a ∧ e.a < r.t.links.length := by
  unfold ckR at hc
  split at hc
  · simp at hc
  split at hc
  · rename_i hk hp
    split at hc
    · rename_i he
      unfold endsR at he
      split at he
      · simp at he
      split at he <;> simp only [Bool.and_eq_true, decide_eq_true_eq] at he <;> omega
    · simp at hc
  · rw [if_neg (by omega), if_neg (by omega)] at hc
    split at hc
    · simp at hc
    · omega
end Go.Proofs.YtafongdfnpnneaaGreatDoor.Top

/- Chapter 53: the program's run and the reference's world agree. -/
set_option maxRecDepth 100000
set_option maxHeartbeats 4000000
set_option linter.all false
namespace Go.Proofs.YtafongdfnpnneaaGreatDoor.Top
open Go.Vm

/-- a packet of the program and one of the reference -/
structure Rq (p q : Pk) : Prop where
  st : q.st = p.st + 1
  dom : p.st = 0 ∨ p.st = 1 ∨ p.st = 2 ∨ p.st = 3
  hops : q.hops = p.hops
  at0 : p.st = 0 → q.at_ = p.at_
  host : p.st = 1 → q.host = p.host
  at2 : p.st = 2 → q.at_ = p.at_
structure Rel (r : Rn) (w : Wd) : Prop where
  t : w.t = r.t
  n : w.ps.length = r.n
  q : ∀ i, i < r.n → Rq (r.pk i) (w.ps.getD i default)
  pend : r.pend = -1 ∨ ∃ p : Nat, r.pend = p ∧ p < r.n ∧ ((r.pk p).st = 1 ∨ (r.pk p).st = 2)
  oth : ∀ i, i < r.n → (i : Int) ≠ r.pend → (r.pk i).st = 0 ∨ (r.pk i).st = 3
theorem Rel0 (t : Tp) : Rel (r0 t) ⟨t, []⟩ := ⟨rfl, rfl, fun i h => by simp [r0] at h, .inl rfl, fun i h => by simp [r0] at h⟩
theorem firstAt_none {α : Type} {f : α → Bool} : ∀ {l : List α} {j : Nat}, (∀ x ∈ l, f x = false) → firstAt f l j = (0, false)
  | [], _, _ => rfl
  | x :: l, j, h => by
    rw [firstAt, if_neg (by rw [h x (List.mem_cons_self ..)]; decide)]
    exact firstAt_none (fun y hy => h y (List.mem_cons_of_mem _ hy))
theorem firstAt_only {α : Type} {f : α → Bool} : ∀ {l : List α} {j k : Nat} (hk : k < l.length), f l[k] = true → (∀ (i : Nat) (h : i < l.length), i ≠ k → f l[i] = false) → firstAt f l j = (((j + k : Nat) : Int), true)
  | [], _, _, h, _, _ => by simp at h
  | x :: l, j, 0, _, h1, _ => by
    rw [firstAt, if_pos (by simpa using h1)]
    rfl
  | x :: l, j, k + 1, hk, h1, h2 => by
    have hx : f x = false := h2 0 (by simp) (by omega)
    rw [firstAt, if_neg (by rw [hx]; decide), firstAt_only (k := k) (by simpa using hk) (by simpa using h1) (fun i h hne => by
      have := h2 (i + 1) (by simpa using h) (by omega)
      simpa using this)]
    congr 2
    omega
theorem getD_at {w : Wd} {i : Nat} (h : i < w.ps.length) : w.ps.getD i default = w.ps[i] := by rw [List.getD_eq_getElem?_getD, List.getElem?_eq_getElem h]; rfl
theorem Rq.busy {p q : Pk} (h : Rq p q) : isBusy q = (decide (p.st = 1) || decide (p.st = 2)) := by
  rw [isBusy, h.st]
  rcases h.dom with e | e | e | e <;> rw [e] <;> rfl
theorem rel_busy {r : Rn} {w : Wd} (h : Rel r w) : busyW w = r.pend := by
  rcases h.pend with hp | ⟨p, hp, hn, hs⟩
  · rw [busyW, firstAt_none, if_neg (by decide), hp]
    intro x hx
    obtain ⟨i, hi, rfl⟩ := List.getElem_of_mem hx
    have hq := h.q i (by rw [← h.n]; exact hi)
    rw [getD_at hi] at hq
    rw [hq.busy]
    rcases h.oth i (by rw [← h.n]; exact hi) (by omega) with e | e <;> rw [e] <;> rfl
  · have hlt : p < w.ps.length := by rw [h.n]; exact hn
    have hb : firstAt isBusy w.ps 0 = (((0 + p : Nat) : Int), true) := by
      refine firstAt_only hlt ?_ ?_
      · have hq := h.q p hn
        rw [getD_at hlt] at hq
        rw [hq.busy]
        rcases hs with e | e <;> rw [e] <;> rfl
      · intro i hi hne
        have hq := h.q i (by rw [← h.n]; exact hi)
        rw [getD_at hi] at hq
        rw [hq.busy]
        rcases h.oth i (by rw [← h.n]; exact hi) (by omega) with e | e <;> rw [e] <;> rfl
    rw [busyW, hb, if_pos rfl, Nat.zero_add, hp]
theorem rel_ck {r : Rn} {w : Wd} (h : Rel r w) (e : Ev) : ckW w e = ckR r e := by
  have hb := rel_busy h
  unfold ckW ckR
  by_cases hk : e.k < 1 ∨ 6 < e.k
  · rw [if_pos hk, if_pos hk]
  rw [if_neg hk, if_neg hk, hb]
  by_cases h0 : 0 ≤ r.pend
  · rw [if_pos h0]
    obtain ⟨p, hp, hn, hs⟩ : ∃ p : Nat, r.pend = p ∧ p < r.n ∧ ((r.pk p).st = 1 ∨ (r.pk p).st = 2) := h.pend.resolve_left (by omega)
    by_cases h1 : e.a ≠ r.pend ∨ (e.k ≠ 3 ∧ e.k ≠ 4)
    · rw [if_pos ⟨h0, h1⟩, if_neg]
      unfold endsR
      split
      · simp
      · rename_i ha
        have h34 : e.k ≠ 3 ∧ e.k ≠ 4 := h1.resolve_left ha
        split <;> simp [h34.1, h34.2]
    · rw [if_neg (fun x => h1 x.2)]
      have ha : e.a = r.pend := by
        apply Decidable.byContradiction
        intro hne
        exact h1 (.inl hne)
      have h34 : e.k = 3 ∨ e.k = 4 := by
        apply Decidable.byContradiction
        intro hne
        exact h1 (.inr ⟨fun x => hne (.inl x), fun x => hne (.inr x)⟩)
      have hlt : p < w.ps.length := by rw [h.n]; exact hn
      have hq := h.q p hn
      have hpt : r.pend.toNat = p := by omega
      have hpa : pkAt w e = w.ps.getD p default := by rw [pkAt, ha, hpt]
      rw [if_neg (by omega), if_neg (by omega), if_neg (by omega), if_neg (by rw [h.n]; omega)]
      generalize w.ps.getD p default = q at hq hpa
      have hen : endsR r e = if (r.pk p).st = 1 then decide (e.k = 3) && decide (e.b = (r.pk p).host) else decide (e.k = 4) && decide ((e.b, e.c) = (r.pk p).at_) := by
        rw [endsR, if_neg (fun x => x ha), hpt]
      rw [hen, pkW, hpa, hq.st]
      rcases hs with e1 | e1
      · rw [e1]
        simp only [if_true, show ¬ ((1 : Int) + 1 = 4) by decide, if_false]
        rcases h34 with k3 | k4
        · rw [k3]
          simp [hq.host e1]
          by_cases hh : (r.pk p).host = e.b
          · simp [hh]
          · have : ¬ e.b = (r.pk p).host := fun x => hh x.symm
            simp [hh, this]
        · rw [k4]
          simp
      · rw [e1]
        simp only [show ¬ ((2 : Int) = 1) by decide, show ¬ ((2 : Int) + 1 = 4) by decide, if_false]
        rcases h34 with k3 | k4
        · rw [k3]
          simp
        · rw [k4]
          simp [hq.at2 e1]
          by_cases hh : (r.pk p).at_ = (e.b, e.c)
          · simp [hh]
          · have : ¬ ((e.b, e.c) : Int × Int) = (r.pk p).at_ := fun x => hh x.symm
            simp [hh, this]
  · rw [if_neg h0, if_neg (fun x => h0 x.1)]
    by_cases k1 : e.k = 1
    · rw [if_pos k1, if_pos k1, h.t, h.n]
    rw [if_neg k1, if_neg k1]
    by_cases k5 : e.k = 5
    · rw [if_pos k5, if_pos k5]
    rw [if_neg k5, if_neg k5]
    by_cases k6 : e.k = 6
    · rw [if_pos k6, if_pos k6, h.t]
      by_cases ha : e.a < 0 ∨ (r.t.links.length : Int) ≤ e.a
      · rw [if_pos ha, if_pos ha]
      · rw [if_neg ha, if_neg ha]
        by_cases hb : e.b < 0 ∨ 1 < e.b
        · rw [if_pos hb, if_pos (by omega)]
        · rw [if_neg hb, if_neg (by omega)]
    rw [if_neg k6, if_neg k6]
    unfold ckP
    rw [h.n]
    by_cases ha : e.a < 0 ∨ (r.n : Int) ≤ e.a
    · rw [if_pos ha, if_pos ha]
    rw [if_neg ha, if_neg ha]
    have hn : e.a.toNat < r.n := by omega
    have hq := h.q _ hn
    have hpm : r.pend = -1 := by
      rcases h.pend with hp | ⟨p, hp, _⟩
      · exact hp
      · omega
    have hst := h.oth e.a.toNat hn (by omega)
    unfold pkW
    rw [show pkAt w e = w.ps.getD e.a.toNat default from rfl, hq.st]
    rcases hst with e1 | e1
    · rw [e1, if_neg (by decide)]
      by_cases k2 : e.k = 2
      · have hat := hq.at0 e1
        generalize w.ps.getD e.a.toNat default = q at hat
        rw [hat]
        by_cases hb2 : (r.pk e.a.toNat).at_.1 = e.b
        · simp [k2, hb2]
        · simp [k2, hb2]
      · have h34 : e.k = 3 ∨ e.k = 4 := by omega
        rcases h34 with k3 | k4
        · simp [k3]
        · simp [k4]
    · rw [e1, if_pos (by decide), if_pos rfl]
theorem rel_step {r : Rn} {w : Wd} (h : Rel r w) {e : Ev} (hc : ckR r e = 0) : Rel (apR r e) (nextW w e) := by
  unfold apR nextW
  by_cases k1 : e.k = 1
  · rw [if_pos k1, if_pos k1]
    refine ⟨h.t, by simp [h.n], fun i hi => ?_, ?_, fun i hi hne => ?_⟩
    · simp only at hi ⊢
      by_cases he : i = r.n
      · subst he
        have hg : ∀ x : Pk, (w.ps ++ [x]).getD r.n default = x := fun x => by
          rw [List.getD_eq_getElem?_getD, List.getElem?_append_right (by rw [h.n]; exact Nat.le_refl _), h.n, Nat.sub_self]; rfl
        rw [setK_same, hg, h.t]
        exact ⟨rfl, .inl rfl, rfl, fun _ => rfl, fun x => by simp at x, fun x => by simp at x⟩
      · rw [setK, if_neg he, List.getD_eq_getElem?_getD, List.getElem?_append_left (by rw [h.n]; omega), ← List.getD_eq_getElem?_getD]
        exact h.q i (by omega)
    · rcases h.pend with hp | ⟨p, hp, hn, hs⟩
      · exact .inl hp
      · refine .inr ⟨p, hp, by simp only; omega, ?_⟩
        simp only [setK]
        rw [if_neg (by omega)]
        exact hs
    · simp only at hi hne ⊢
      by_cases he : i = r.n
      · subst he; rw [setK_same]; exact .inl rfl
      · rw [setK, if_neg he]; exact h.oth i (by omega) hne
  rw [if_neg k1, if_neg k1]
  have hset : ∀ (p : Nat) (x y : Pk), p < r.n → Rq x y → ∀ i, i < r.n → Rq (setK r.pk p x i) ((w.ps.set p y).getD i default) := fun p x y hp hxy i hi => by
    by_cases he : i = p
    · subst he
      rw [setK_same, List.getD_eq_getElem?_getD, List.getElem?_set_self (by rw [h.n]; exact hp)]
      exact hxy
    · rw [setK, if_neg he, List.getD_eq_getElem?_getD, List.getElem?_set_ne (by omega), ← List.getD_eq_getElem?_getD]
      exact h.q i hi
  by_cases k2 : e.k = 2
  · rw [if_pos k2, if_pos k2]
    obtain ⟨a0, a1, a2⟩ := ckR_pend hc k2
    obtain ⟨s3, sb⟩ := ckR_fw hc k2
    have hcc := ckR_c hc k2
    obtain ⟨p, hp⟩ : ∃ p : Nat, e.a = p := ⟨e.a.toNat, by omega⟩
    have hpt : e.a.toNat = p := by omega
    rw [hpt] at s3 sb
    have hpn : p < r.n := by omega
    have hpm : r.pend = -1 := by
      rcases h.pend with hq | ⟨q, hq, _⟩
      · exact hq
      · omega
    have s0 : (r.pk p).st = 0 := (h.oth p hpn (by omega)).resolve_right s3
    have hq := h.q p hpn
    have hat := hq.at0 s0
    have hpk : pkAt w e = w.ps.getD p default := by rw [pkAt, hpt]
    have hxy : Rq (fwP r.t (r.pk p) e) (fwW w.t (pkAt w e) e.c) ∧ (fwN r.t r.pend e = -1 ∧ ((fwP r.t (r.pk p) e).st = 0 ∨ (fwP r.t (r.pk p) e).st = 3) ∨ fwN r.t r.pend e = e.a ∧ ((fwP r.t (r.pk p) e).st = 1 ∨ (fwP r.t (r.pk p) e).st = 2)) := by
      rw [hpk]
      unfold fwP fwW fwN
      have hh : (w.ps.getD p default).hops ++ [((w.ps.getD p default).at_.1, (w.ps.getD p default).at_.2, e.c)] = hopOf (r.pk p) e := by rw [hq.hops, hat, hopOf, sb]
      rw [hh, hat, sb, h.t]
      by_cases hm : e.c = -1
      · have hc0 : e.c < 0 := by omega
        simp only [if_pos hm, if_pos hc0]
        exact ⟨⟨rfl, .inr (.inr (.inr rfl)), rfl, fun x => by simp at x, fun x => by simp at x, fun x => by simp at x⟩, .inl ⟨hpm, .inr trivial⟩⟩
      · have hc0 : ¬ e.c < 0 := by omega
        simp only [if_neg hm, if_neg hc0]
        by_cases hho : (hostAt r.t (e.b, e.c)).2 = true
        · simp only [if_pos hho]
          exact ⟨⟨rfl, .inr (.inl rfl), rfl, fun x => by simp at x, fun _ => rfl, fun x => by simp at x⟩, .inr ⟨trivial, .inl trivial⟩⟩
        · simp only [if_neg hho]
          by_cases hpe : (peer r.t (e.b, e.c)).2 = 0
          · simp only [if_pos hpe]
            exact ⟨⟨by simp only; omega, .inl s0, rfl, fun _ => rfl, fun x => by simp only at x; omega, fun x => by simp only at x; omega⟩, .inl ⟨hpm, .inl s0⟩⟩
          · simp only [if_neg hpe]
            exact ⟨⟨rfl, .inr (.inr (.inl rfl)), rfl, fun x => by simp at x, fun x => by simp at x, fun _ => rfl⟩, .inr ⟨trivial, .inr trivial⟩⟩
    obtain ⟨hxy, hpp⟩ := hxy
    simp only [fwR, hpt]
    refine ⟨h.t, by simp [h.n], fun i hi => hset p _ _ hpn hxy i hi, ?_, fun i hi hne => ?_⟩
    · rcases hpp with ⟨x, _⟩ | ⟨x, y⟩
      · exact .inl x
      · refine .inr ⟨p, by simp only; rw [x, hp], hpn, ?_⟩
        simp only
        rw [setK_same]
        exact y
    · simp only at hi hne ⊢
      by_cases he : i = p
      · subst he
        rw [setK_same]
        rcases hpp with ⟨_, y⟩ | ⟨x, _⟩
        · exact y
        · rw [x, hp] at hne; exact absurd rfl hne
      · rw [setK, if_neg he]
        exact h.oth i hi (by omega)
  rw [if_neg k2, if_neg k2]
  by_cases k34 : e.k = 3 ∨ e.k = 4
  · rw [if_pos k34, if_pos k34]
    have ha := ckR_end hc k34
    have hpe := ckR_pe hc k34
    obtain ⟨p, hp, hn, hs⟩ : ∃ p : Nat, r.pend = p ∧ p < r.n ∧ ((r.pk p).st = 1 ∨ (r.pk p).st = 2) := h.pend.resolve_left (by omega)
    have hpt : e.a.toNat = p := by omega
    rw [hpt]
    have hq := h.q p hn
    have hpk : pkAt w e = w.ps.getD p default := by rw [pkAt, hpt]
    refine ⟨h.t, by simp [h.n], fun i hi => hset p _ _ hn ?_ i hi, .inl rfl, fun i hi hne => ?_⟩
    · exact ⟨rfl, .inr (.inr (.inr rfl)), by simp only; rw [hpk, hq.hops], fun x => by simp at x, fun x => by simp at x, fun x => by simp at x⟩
    · simp only at hi hne ⊢
      by_cases he : i = p
      · subst he; rw [setK_same]; exact .inr rfl
      · rw [setK, if_neg he]; exact h.oth i hi (by omega)
  rw [if_neg k34, if_neg k34]
  by_cases k6 : e.k = 6
  · rw [if_pos k6, if_pos k6]
    have hl := ckR_lk hc k6
    refine ⟨?_, h.n, h.q, h.pend, h.oth⟩
    simp only
    rw [h.t, setL, if_pos hl]
  · rw [if_neg k6, if_neg k6]
    exact h
end Go.Proofs.YtafongdfnpnneaaGreatDoor.Top

/- Chapter 53: the reference's world: its packets, what it says of an event, what it makes of one. -/
set_option maxRecDepth 100000
set_option maxHeartbeats 4000000
set_option linter.all false
namespace Go.Proofs.YtafongdfnpnneaaGreatDoor.Top
open Go.Vm

theorem pc38 (w : Wd) (hf : w.fit) : PC Tryz.prog 38 [.agg (encW w)] (.int .i64 (busyW w)) := by
  have hn := hf.n
  refine PC.walk tok mixed cfg0 Tryz.func38 rfl Tryz.call38 (by simp [belT, belP, bel_slI, bel_slL, bel_slP, bel_ints, bel_Ps, bel_Ls, bel_encE, bel_agE, bel_Q, bel_Qs, bel_slH, bel_Hs, bel_W]) (by first | rfl | simp [belT, belP, bel_slI, bel_slL, bel_slP, bel_ints, bel_Ps, bel_Ls, bel_encE, bel_agE, bel_Q, bel_Qs, bel_slH, bel_Hs, bel_W]) ?_; simp (maxSteps := 2000000) -implicitDefEqProofs +contextual (disch := first | assumption | omega | decide +kernel) only [push_cast, ↓capI, br2_true, br2_false, frk_tt, frk_tf, frk_f, frkD_tt, frkD_tf, frkD_f, pk2_true, pk2_false, imp_true, seval, Nat.reduceLeDiff, Nat.reduceEqDiff, reduceCtorEq, ↓reduceIte, slH, encE, agE, encT, encP, encL, encQ, encW, slI, slP, slL, cfg0, get_flat_part lenQ, get_flat_drop lenQ, len_flat lenQ, get_flat0 lenQ, get_flat_part lenP, len_flat lenP, get_flat0 lenP, eqP, Nat.mul_one, ones_Q, take_Q, ones_H, take_H, len_flat lenH, Tryz.ntmps38]
  refine T.lp tok mixed cfg0 (fun (j : Nat) => dd 1 (kp 1 (dd 1 (sv (.int .i64 j) (dd 24 (nl)))))) (fun H0 (j : Nat) => H0) (fun (j : Nat) => j ≤ w.ps.length ∧ firstAt isBusy (w.ps.drop j) j = firstAt isBusy w.ps 0) (fun (j : Nat) => w.ps.length - j) (0) ?_ ?_ ?_
  · exact ⟨Nat.zero_le _, rfl⟩
  · exact Gn.canon (J := _) (by first | rfl | (simp [List.append_nil]; done) | (simp [List.append_nil]; rfl)) (by simp [wk, slP, slL, slI, putT, kp, dd, sv, nl]) (by simp [List.length_append]) (by simp [belT, belP, bel_slI, bel_slL, bel_slP, bel_ints, bel_Ps, bel_Ls, bel_encE, bel_agE, bel_Q, bel_Qs, bel_slH, bel_Hs, bel_W, kp, dd, sv, nl]) (by simp [belT, belP, bel_slI, bel_slL, bel_slP, bel_ints, bel_Ps, bel_Ls, bel_encE, bel_agE, bel_Q, bel_Qs, bel_slH, bel_Hs, bel_W])
  intro j ⟨hj, hk⟩
  by_cases hlt : j < w.ps.length
  · rw [List.drop_eq_getElem_cons hlt, firstAt] at hk
    by_cases h2 : w.ps[j].st = 2
    · have hb : isBusy w.ps[j] = true := by simp [isBusy, h2]
      rw [if_pos hb] at hk
      have hr : busyW w = j := by rw [busyW, ← hk]; rfl
      rw [hr]
      simp (maxSteps := 2000000) -implicitDefEqProofs +contextual (disch := first | assumption | omega | decide +kernel) only [push_cast, ↓capI, br2_true, br2_false, frk_tt, frk_tf, frk_f, frkD_tt, frkD_tf, frkD_f, pk2_true, pk2_false, imp_true, seval, Nat.reduceLeDiff, Nat.reduceEqDiff, reduceCtorEq, ↓reduceIte, slH, encE, agE, encT, encP, encL, encQ, encW, slI, slP, slL, cfg0, get_flat_part lenQ, get_flat_drop lenQ, len_flat lenQ, get_flat0 lenQ, get_flat_part lenP, len_flat lenP, get_flat0 lenP, eqP, Nat.mul_one, ones_Q, take_Q, ones_H, take_H, len_flat lenH, h2]
      refine endK.ret ?_ (by first | rfl | simp [belT, belP, bel_slI, bel_slL, bel_slP, bel_ints, bel_Ps, bel_Ls, bel_encE, bel_agE, bel_Q, bel_Qs, bel_slH, bel_Hs, bel_W]); simp [evRes, getT, retV, Tryz.f38]
    · by_cases h3 : w.ps[j].st = 3
      · have hb : isBusy w.ps[j] = true := by simp [isBusy, h3]
        rw [if_pos hb] at hk
        have hr : busyW w = j := by rw [busyW, ← hk]; rfl
        rw [hr]
        simp (maxSteps := 2000000) -implicitDefEqProofs +contextual (disch := first | assumption | omega | decide +kernel) only [push_cast, ↓capI, br2_true, br2_false, frk_tt, frk_tf, frk_f, frkD_tt, frkD_tf, frkD_f, pk2_true, pk2_false, imp_true, seval, Nat.reduceLeDiff, Nat.reduceEqDiff, reduceCtorEq, ↓reduceIte, slH, encE, agE, encT, encP, encL, encQ, encW, slI, slP, slL, cfg0, get_flat_part lenQ, get_flat_drop lenQ, len_flat lenQ, get_flat0 lenQ, get_flat_part lenP, len_flat lenP, get_flat0 lenP, eqP, Nat.mul_one, ones_Q, take_Q, ones_H, take_H, len_flat lenH, h2, h3]
        refine endK.ret ?_ (by first | rfl | simp [belT, belP, bel_slI, bel_slL, bel_slP, bel_ints, bel_Ps, bel_Ls, bel_encE, bel_agE, bel_Q, bel_Qs, bel_slH, bel_Hs, bel_W]); simp [evRes, getT, retV, Tryz.f38]
      · have hb : ¬ isBusy w.ps[j] = true := by simp [isBusy, h2, h3]
        rw [if_neg hb] at hk
        simp (maxSteps := 2000000) -implicitDefEqProofs +contextual (disch := first | assumption | omega | decide +kernel) only [push_cast, ↓capI, br2_true, br2_false, frk_tt, frk_tf, frk_f, frkD_tt, frkD_tf, frkD_f, pk2_true, pk2_false, imp_true, seval, Nat.reduceLeDiff, Nat.reduceEqDiff, reduceCtorEq, ↓reduceIte, slH, encE, agE, encT, encP, encL, encQ, encW, slI, slP, slL, cfg0, get_flat_part lenQ, get_flat_drop lenQ, len_flat lenQ, get_flat0 lenQ, get_flat_part lenP, len_flat lenP, get_flat0 lenP, eqP, Nat.mul_one, ones_Q, take_Q, ones_H, take_H, len_flat lenH, h2, h3]
        refine ⟨j + 1, ⟨by omega, hk⟩, by (try simp only); omega, ?_⟩; exact Gn.canon (by first | rfl | (simp [List.append_nil]; rfl)) (by simp [wk, slP, slL, slI]) (by simp [List.length_append]) (by simp [belT, belP, bel_slI, bel_slL, bel_slP, bel_ints, bel_Ps, bel_Ls, bel_encE, bel_agE, bel_Q, bel_Qs, bel_slH, bel_Hs, bel_W]) (by simp [belT, belP, bel_slI, bel_slL, bel_slP, bel_ints, bel_Ps, bel_Ls, bel_encE, bel_agE, bel_Q, bel_Qs, bel_slH, bel_Hs, bel_W])
  · rw [List.drop_of_length_le (by omega), firstAt] at hk
    have hr : busyW w = -1 := by rw [busyW, ← hk]; rfl
    rw [hr]
    simp (maxSteps := 2000000) -implicitDefEqProofs +contextual (disch := first | assumption | omega | decide +kernel) only [push_cast, ↓capI, br2_true, br2_false, frk_tt, frk_tf, frk_f, frkD_tt, frkD_tf, frkD_f, pk2_true, pk2_false, imp_true, seval, Nat.reduceLeDiff, Nat.reduceEqDiff, reduceCtorEq, ↓reduceIte, slH, encE, agE, encT, encP, encL, encQ, encW, slI, slP, slL, cfg0, get_flat_part lenQ, get_flat_drop lenQ, len_flat lenQ, get_flat0 lenQ, get_flat_part lenP, len_flat lenP, get_flat0 lenP, eqP, Nat.mul_one, ones_Q, take_Q, ones_H, take_H, len_flat lenH]
    refine endK.ret ?_ (by first | rfl | simp [belT, belP, bel_slI, bel_slL, bel_slP, bel_ints, bel_Ps, bel_Ls, bel_encE, bel_agE, bel_Q, bel_Qs, bel_slH, bel_Hs, bel_W]); simp [evRes, getT, retV, Tryz.f38]
theorem pc39 (w : Wd) (hf : w.fit) (e : Ev) (h0 : 0 ≤ e.a) (h1 : e.a < w.ps.length) : PC Tryz.prog 39 [.agg (encW w), agE e] (.int .i64 (pkW w e)) := by
  have hn := hf.n
  obtain ⟨i, hi⟩ : ∃ i : Nat, e.a = i := ⟨e.a.toNat, by omega⟩
  have hlt : i < w.ps.length := by omega
  have hp : pkAt w e = w.ps[i] := by rw [pkAt, hi, Int.toNat_natCast, List.getD_eq_getElem?_getD, List.getElem?_eq_getElem hlt]; rfl
  have hr : pkW w e = if w.ps[i].st = 4 then 25
    else if e.k = 3 ∧ (w.ps[i].st ≠ 2 ∨ w.ps[i].host ≠ e.b) then 14
    else if e.k = 4 ∧ (w.ps[i].st ≠ 3 ∨ w.ps[i].at_ ≠ (e.b, e.c)) then 14
    else if e.k = 2 ∧ (w.ps[i].st ≠ 1 ∨ w.ps[i].at_.1 ≠ e.b) then 14
    else if e.k = 2 ∧ (e.c < -1 ∨ 255 < e.c) then 9 else 0 := by rw [pkW, hp]
  rw [hr]
  clear hr hp
  obtain ⟨ek, ea, eb, ec⟩ := e
  simp only at hi h0 h1
  subst hi
  have hlt2 : (i : Int) < (w.ps.length : Int) := by omega
  have hQ : ∀ (x : Int × Int) (u v : Int), (x.1 == u && x.2 == v) = decide (x = (u, v)) := fun x u v => by
    obtain ⟨a, b⟩ := x
    exact eqP (a := (a, b)) (b := (u, v))
  by_cases h4 : w.ps[i].st = 4
  · refine PC.walk tok mixed cfg0 Tryz.func39 rfl Tryz.call39 (by simp [belT, belP, bel_slI, bel_slL, bel_slP, bel_ints, bel_Ps, bel_Ls, bel_encE, bel_agE, bel_Q, bel_Qs, bel_slH, bel_Hs, bel_W]) (by first | rfl | simp [belT, belP, bel_slI, bel_slL, bel_slP, bel_ints, bel_Ps, bel_Ls, bel_encE, bel_agE, bel_Q, bel_Qs, bel_slH, bel_Hs, bel_W]) ?_; simp (maxSteps := 2000000) -implicitDefEqProofs +contextual (disch := first | assumption | omega | decide +kernel) only [push_cast, ↓capI, br2_true, br2_false, frk_tt, frk_tf, frk_f, frkD_tt, frkD_tf, frkD_f, pk2_true, pk2_false, imp_true, seval, Nat.reduceLeDiff, Nat.reduceEqDiff, reduceCtorEq, ↓reduceIte, slH, encE, agE, encT, encP, encL, encQ, encW, slI, slP, slL, cfg0, get_flat_part lenQ, get_flat_drop lenQ, len_flat lenQ, get_flat0 lenQ, get_flat_part lenP, len_flat lenP, get_flat0 lenP, eqP, Nat.mul_one, ones_Q, take_Q, ones_H, take_H, len_flat lenH, Tryz.ntmps39]
    refine endK.ret ?_ (by first | rfl | simp [belT, belP, bel_slI, bel_slL, bel_slP, bel_ints, bel_Ps, bel_Ls, bel_encE, bel_agE, bel_Q, bel_Qs, bel_slH, bel_Hs, bel_W]); simp [evRes, getT, retV, Tryz.f39,  h4]
  by_cases k3 : ek = 3
  · subst k3
    by_cases a1 : w.ps[i].st = 2
    · by_cases a2 : w.ps[i].host = eb
      · refine PC.walk tok mixed cfg0 Tryz.func39 rfl Tryz.call39 (by simp [belT, belP, bel_slI, bel_slL, bel_slP, bel_ints, bel_Ps, bel_Ls, bel_encE, bel_agE, bel_Q, bel_Qs, bel_slH, bel_Hs, bel_W]) (by first | rfl | simp [belT, belP, bel_slI, bel_slL, bel_slP, bel_ints, bel_Ps, bel_Ls, bel_encE, bel_agE, bel_Q, bel_Qs, bel_slH, bel_Hs, bel_W]) ?_; simp (maxSteps := 2000000) -implicitDefEqProofs +contextual (disch := first | assumption | omega | decide +kernel) only [push_cast, ↓capI, br2_true, br2_false, frk_tt, frk_tf, frk_f, frkD_tt, frkD_tf, frkD_f, pk2_true, pk2_false, imp_true, seval, Nat.reduceLeDiff, Nat.reduceEqDiff, reduceCtorEq, ↓reduceIte, slH, encE, agE, encT, encP, encL, encQ, encW, slI, slP, slL, cfg0, get_flat_part lenQ, get_flat_drop lenQ, len_flat lenQ, get_flat0 lenQ, get_flat_part lenP, len_flat lenP, get_flat0 lenP, eqP, Nat.mul_one, ones_Q, take_Q, ones_H, take_H, len_flat lenH, Tryz.ntmps39]
        refine endK.ret ?_ (by first | rfl | simp [belT, belP, bel_slI, bel_slL, bel_slP, bel_ints, bel_Ps, bel_Ls, bel_encE, bel_agE, bel_Q, bel_Qs, bel_slH, bel_Hs, bel_W]); simp [evRes, getT, retV, Tryz.f39,  a1, a2]
      · refine PC.walk tok mixed cfg0 Tryz.func39 rfl Tryz.call39 (by simp [belT, belP, bel_slI, bel_slL, bel_slP, bel_ints, bel_Ps, bel_Ls, bel_encE, bel_agE, bel_Q, bel_Qs, bel_slH, bel_Hs, bel_W]) (by first | rfl | simp [belT, belP, bel_slI, bel_slL, bel_slP, bel_ints, bel_Ps, bel_Ls, bel_encE, bel_agE, bel_Q, bel_Qs, bel_slH, bel_Hs, bel_W]) ?_; simp (maxSteps := 2000000) -implicitDefEqProofs +contextual (disch := first | assumption | omega | decide +kernel) only [push_cast, ↓capI, br2_true, br2_false, frk_tt, frk_tf, frk_f, frkD_tt, frkD_tf, frkD_f, pk2_true, pk2_false, imp_true, seval, Nat.reduceLeDiff, Nat.reduceEqDiff, reduceCtorEq, ↓reduceIte, slH, encE, agE, encT, encP, encL, encQ, encW, slI, slP, slL, cfg0, get_flat_part lenQ, get_flat_drop lenQ, len_flat lenQ, get_flat0 lenQ, get_flat_part lenP, len_flat lenP, get_flat0 lenP, eqP, Nat.mul_one, ones_Q, take_Q, ones_H, take_H, len_flat lenH, Tryz.ntmps39]
        refine endK.ret ?_ (by first | rfl | simp [belT, belP, bel_slI, bel_slL, bel_slP, bel_ints, bel_Ps, bel_Ls, bel_encE, bel_agE, bel_Q, bel_Qs, bel_slH, bel_Hs, bel_W]); simp [evRes, getT, retV, Tryz.f39,  a1, a2]
    · refine PC.walk tok mixed cfg0 Tryz.func39 rfl Tryz.call39 (by simp [belT, belP, bel_slI, bel_slL, bel_slP, bel_ints, bel_Ps, bel_Ls, bel_encE, bel_agE, bel_Q, bel_Qs, bel_slH, bel_Hs, bel_W]) (by first | rfl | simp [belT, belP, bel_slI, bel_slL, bel_slP, bel_ints, bel_Ps, bel_Ls, bel_encE, bel_agE, bel_Q, bel_Qs, bel_slH, bel_Hs, bel_W]) ?_; simp (maxSteps := 2000000) -implicitDefEqProofs +contextual (disch := first | assumption | omega | decide +kernel) only [push_cast, ↓capI, br2_true, br2_false, frk_tt, frk_tf, frk_f, frkD_tt, frkD_tf, frkD_f, pk2_true, pk2_false, imp_true, seval, Nat.reduceLeDiff, Nat.reduceEqDiff, reduceCtorEq, ↓reduceIte, slH, encE, agE, encT, encP, encL, encQ, encW, slI, slP, slL, cfg0, get_flat_part lenQ, get_flat_drop lenQ, len_flat lenQ, get_flat0 lenQ, get_flat_part lenP, len_flat lenP, get_flat0 lenP, eqP, Nat.mul_one, ones_Q, take_Q, ones_H, take_H, len_flat lenH, Tryz.ntmps39]
      refine endK.ret ?_ (by first | rfl | simp [belT, belP, bel_slI, bel_slL, bel_slP, bel_ints, bel_Ps, bel_Ls, bel_encE, bel_agE, bel_Q, bel_Qs, bel_slH, bel_Hs, bel_W]); simp [evRes, getT, retV, Tryz.f39,  h4, a1]
  by_cases k4 : ek = 4
  · subst k4
    by_cases a1 : w.ps[i].st = 3
    · by_cases a2 : w.ps[i].at_ = (eb, ec)
      · have b1 : w.ps[i].at_.1 = eb := by rw [a2]
        have b2 : w.ps[i].at_.2 = ec := by rw [a2]
        refine PC.walk tok mixed cfg0 Tryz.func39 rfl Tryz.call39 (by simp [belT, belP, bel_slI, bel_slL, bel_slP, bel_ints, bel_Ps, bel_Ls, bel_encE, bel_agE, bel_Q, bel_Qs, bel_slH, bel_Hs, bel_W]) (by first | rfl | simp [belT, belP, bel_slI, bel_slL, bel_slP, bel_ints, bel_Ps, bel_Ls, bel_encE, bel_agE, bel_Q, bel_Qs, bel_slH, bel_Hs, bel_W]) ?_; simp (maxSteps := 2000000) -implicitDefEqProofs +contextual (disch := first | assumption | omega | decide +kernel) only [push_cast, ↓capI, br2_true, br2_false, frk_tt, frk_tf, frk_f, frkD_tt, frkD_tf, frkD_f, pk2_true, pk2_false, imp_true, seval, Nat.reduceLeDiff, Nat.reduceEqDiff, reduceCtorEq, ↓reduceIte, slH, encE, agE, encT, encP, encL, encQ, encW, slI, slP, slL, cfg0, get_flat_part lenQ, get_flat_drop lenQ, len_flat lenQ, get_flat0 lenQ, get_flat_part lenP, len_flat lenP, get_flat0 lenP, eqP, Nat.mul_one, ones_Q, take_Q, ones_H, take_H, len_flat lenH, Tryz.ntmps39]
        (try simp (maxSteps := 2000000) -implicitDefEqProofs +contextual (disch := first | assumption | omega | decide +kernel) only [push_cast, ↓capI, br2_true, br2_false, frk_tt, frk_tf, frk_f, frkD_tt, frkD_tf, frkD_f, pk2_true, pk2_false, imp_true, seval, Nat.reduceLeDiff, Nat.reduceEqDiff, reduceCtorEq, ↓reduceIte, slH, encE, agE, encT, encP, encL, encQ, encW, slI, slP, slL, cfg0, get_flat_part lenQ, get_flat_drop lenQ, len_flat lenQ, get_flat0 lenQ, get_flat_part lenP, len_flat lenP, get_flat0 lenP, eqP, Nat.mul_one, ones_Q, take_Q, ones_H, take_H, len_flat lenH, b1, b2])
        refine endK.ret ?_ (by first | rfl | simp [belT, belP, bel_slI, bel_slL, bel_slP, bel_ints, bel_Ps, bel_Ls, bel_encE, bel_agE, bel_Q, bel_Qs, bel_slH, bel_Hs, bel_W]); simp [evRes, getT, retV, Tryz.f39,  a1, a2]
      · refine PC.walk tok mixed cfg0 Tryz.func39 rfl Tryz.call39 (by simp [belT, belP, bel_slI, bel_slL, bel_slP, bel_ints, bel_Ps, bel_Ls, bel_encE, bel_agE, bel_Q, bel_Qs, bel_slH, bel_Hs, bel_W]) (by first | rfl | simp [belT, belP, bel_slI, bel_slL, bel_slP, bel_ints, bel_Ps, bel_Ls, bel_encE, bel_agE, bel_Q, bel_Qs, bel_slH, bel_Hs, bel_W]) ?_; simp (maxSteps := 2000000) -implicitDefEqProofs +contextual (disch := first | assumption | omega | decide +kernel) only [push_cast, ↓capI, br2_true, br2_false, frk_tt, frk_tf, frk_f, frkD_tt, frkD_tf, frkD_f, pk2_true, pk2_false, imp_true, seval, Nat.reduceLeDiff, Nat.reduceEqDiff, reduceCtorEq, ↓reduceIte, slH, encE, agE, encT, encP, encL, encQ, encW, slI, slP, slL, cfg0, get_flat_part lenQ, get_flat_drop lenQ, len_flat lenQ, get_flat0 lenQ, get_flat_part lenP, len_flat lenP, get_flat0 lenP, eqP, Nat.mul_one, ones_Q, take_Q, ones_H, take_H, len_flat lenH, Tryz.ntmps39]
        (try simp (maxSteps := 2000000) -implicitDefEqProofs +contextual (disch := first | assumption | omega | decide +kernel) only [push_cast, ↓capI, br2_true, br2_false, frk_tt, frk_tf, frk_f, frkD_tt, frkD_tf, frkD_f, pk2_true, pk2_false, imp_true, seval, Nat.reduceLeDiff, Nat.reduceEqDiff, reduceCtorEq, ↓reduceIte, slH, encE, agE, encT, encP, encL, encQ, encW, slI, slP, slL, cfg0, get_flat_part lenQ, get_flat_drop lenQ, len_flat lenQ, get_flat0 lenQ, get_flat_part lenP, len_flat lenP, get_flat0 lenP, eqP, Nat.mul_one, ones_Q, take_Q, ones_H, take_H, len_flat lenH, hQ])
        (try simp (maxSteps := 2000000) -implicitDefEqProofs +contextual (disch := first | assumption | omega | decide +kernel) only [push_cast, ↓capI, br2_true, br2_false, frk_tt, frk_tf, frk_f, frkD_tt, frkD_tf, frkD_f, pk2_true, pk2_false, imp_true, seval, Nat.reduceLeDiff, Nat.reduceEqDiff, reduceCtorEq, ↓reduceIte, slH, encE, agE, encT, encP, encL, encQ, encW, slI, slP, slL, cfg0, get_flat_part lenQ, get_flat_drop lenQ, len_flat lenQ, get_flat0 lenQ, get_flat_part lenP, len_flat lenP, get_flat0 lenP, eqP, Nat.mul_one, ones_Q, take_Q, ones_H, take_H, len_flat lenH, a2])
        refine endK.ret ?_ (by first | rfl | simp [belT, belP, bel_slI, bel_slL, bel_slP, bel_ints, bel_Ps, bel_Ls, bel_encE, bel_agE, bel_Q, bel_Qs, bel_slH, bel_Hs, bel_W]); simp [evRes, getT, retV, Tryz.f39,  a1, a2]
    · refine PC.walk tok mixed cfg0 Tryz.func39 rfl Tryz.call39 (by simp [belT, belP, bel_slI, bel_slL, bel_slP, bel_ints, bel_Ps, bel_Ls, bel_encE, bel_agE, bel_Q, bel_Qs, bel_slH, bel_Hs, bel_W]) (by first | rfl | simp [belT, belP, bel_slI, bel_slL, bel_slP, bel_ints, bel_Ps, bel_Ls, bel_encE, bel_agE, bel_Q, bel_Qs, bel_slH, bel_Hs, bel_W]) ?_; simp (maxSteps := 2000000) -implicitDefEqProofs +contextual (disch := first | assumption | omega | decide +kernel) only [push_cast, ↓capI, br2_true, br2_false, frk_tt, frk_tf, frk_f, frkD_tt, frkD_tf, frkD_f, pk2_true, pk2_false, imp_true, seval, Nat.reduceLeDiff, Nat.reduceEqDiff, reduceCtorEq, ↓reduceIte, slH, encE, agE, encT, encP, encL, encQ, encW, slI, slP, slL, cfg0, get_flat_part lenQ, get_flat_drop lenQ, len_flat lenQ, get_flat0 lenQ, get_flat_part lenP, len_flat lenP, get_flat0 lenP, eqP, Nat.mul_one, ones_Q, take_Q, ones_H, take_H, len_flat lenH, Tryz.ntmps39]
      refine endK.ret ?_ (by first | rfl | simp [belT, belP, bel_slI, bel_slL, bel_slP, bel_ints, bel_Ps, bel_Ls, bel_encE, bel_agE, bel_Q, bel_Qs, bel_slH, bel_Hs, bel_W]); simp [evRes, getT, retV, Tryz.f39,  h4, a1]
  by_cases k2 : ek = 2
  · subst k2
    by_cases a1 : w.ps[i].st = 1
    · by_cases a2 : w.ps[i].at_.1 = eb
      · by_cases c1 : ec < -1
        · refine PC.walk tok mixed cfg0 Tryz.func39 rfl Tryz.call39 (by simp [belT, belP, bel_slI, bel_slL, bel_slP, bel_ints, bel_Ps, bel_Ls, bel_encE, bel_agE, bel_Q, bel_Qs, bel_slH, bel_Hs, bel_W]) (by first | rfl | simp [belT, belP, bel_slI, bel_slL, bel_slP, bel_ints, bel_Ps, bel_Ls, bel_encE, bel_agE, bel_Q, bel_Qs, bel_slH, bel_Hs, bel_W]) ?_; simp (maxSteps := 2000000) -implicitDefEqProofs +contextual (disch := first | assumption | omega | decide +kernel) only [push_cast, ↓capI, br2_true, br2_false, frk_tt, frk_tf, frk_f, frkD_tt, frkD_tf, frkD_f, pk2_true, pk2_false, imp_true, seval, Nat.reduceLeDiff, Nat.reduceEqDiff, reduceCtorEq, ↓reduceIte, slH, encE, agE, encT, encP, encL, encQ, encW, slI, slP, slL, cfg0, get_flat_part lenQ, get_flat_drop lenQ, len_flat lenQ, get_flat0 lenQ, get_flat_part lenP, len_flat lenP, get_flat0 lenP, eqP, Nat.mul_one, ones_Q, take_Q, ones_H, take_H, len_flat lenH, Tryz.ntmps39]
          refine endK.ret ?_ (by first | rfl | simp [belT, belP, bel_slI, bel_slL, bel_slP, bel_ints, bel_Ps, bel_Ls, bel_encE, bel_agE, bel_Q, bel_Qs, bel_slH, bel_Hs, bel_W]); simp [evRes, getT, retV, Tryz.f39,  a1, a2, c1]
        · by_cases c2 : 255 < ec
          · refine PC.walk tok mixed cfg0 Tryz.func39 rfl Tryz.call39 (by simp [belT, belP, bel_slI, bel_slL, bel_slP, bel_ints, bel_Ps, bel_Ls, bel_encE, bel_agE, bel_Q, bel_Qs, bel_slH, bel_Hs, bel_W]) (by first | rfl | simp [belT, belP, bel_slI, bel_slL, bel_slP, bel_ints, bel_Ps, bel_Ls, bel_encE, bel_agE, bel_Q, bel_Qs, bel_slH, bel_Hs, bel_W]) ?_; simp (maxSteps := 2000000) -implicitDefEqProofs +contextual (disch := first | assumption | omega | decide +kernel) only [push_cast, ↓capI, br2_true, br2_false, frk_tt, frk_tf, frk_f, frkD_tt, frkD_tf, frkD_f, pk2_true, pk2_false, imp_true, seval, Nat.reduceLeDiff, Nat.reduceEqDiff, reduceCtorEq, ↓reduceIte, slH, encE, agE, encT, encP, encL, encQ, encW, slI, slP, slL, cfg0, get_flat_part lenQ, get_flat_drop lenQ, len_flat lenQ, get_flat0 lenQ, get_flat_part lenP, len_flat lenP, get_flat0 lenP, eqP, Nat.mul_one, ones_Q, take_Q, ones_H, take_H, len_flat lenH, Tryz.ntmps39]
            refine endK.ret ?_ (by first | rfl | simp [belT, belP, bel_slI, bel_slL, bel_slP, bel_ints, bel_Ps, bel_Ls, bel_encE, bel_agE, bel_Q, bel_Qs, bel_slH, bel_Hs, bel_W]); simp [evRes, getT, retV, Tryz.f39,  a1, a2, c1, c2]
          · refine PC.walk tok mixed cfg0 Tryz.func39 rfl Tryz.call39 (by simp [belT, belP, bel_slI, bel_slL, bel_slP, bel_ints, bel_Ps, bel_Ls, bel_encE, bel_agE, bel_Q, bel_Qs, bel_slH, bel_Hs, bel_W]) (by first | rfl | simp [belT, belP, bel_slI, bel_slL, bel_slP, bel_ints, bel_Ps, bel_Ls, bel_encE, bel_agE, bel_Q, bel_Qs, bel_slH, bel_Hs, bel_W]) ?_; simp (maxSteps := 2000000) -implicitDefEqProofs +contextual (disch := first | assumption | omega | decide +kernel) only [push_cast, ↓capI, br2_true, br2_false, frk_tt, frk_tf, frk_f, frkD_tt, frkD_tf, frkD_f, pk2_true, pk2_false, imp_true, seval, Nat.reduceLeDiff, Nat.reduceEqDiff, reduceCtorEq, ↓reduceIte, slH, encE, agE, encT, encP, encL, encQ, encW, slI, slP, slL, cfg0, get_flat_part lenQ, get_flat_drop lenQ, len_flat lenQ, get_flat0 lenQ, get_flat_part lenP, len_flat lenP, get_flat0 lenP, eqP, Nat.mul_one, ones_Q, take_Q, ones_H, take_H, len_flat lenH, Tryz.ntmps39]
            refine endK.ret ?_ (by first | rfl | simp [belT, belP, bel_slI, bel_slL, bel_slP, bel_ints, bel_Ps, bel_Ls, bel_encE, bel_agE, bel_Q, bel_Qs, bel_slH, bel_Hs, bel_W]); simp [evRes, getT, retV, Tryz.f39,  a1, a2, c1, c2]
      · refine PC.walk tok mixed cfg0 Tryz.func39 rfl Tryz.call39 (by simp [belT, belP, bel_slI, bel_slL, bel_slP, bel_ints, bel_Ps, bel_Ls, bel_encE, bel_agE, bel_Q, bel_Qs, bel_slH, bel_Hs, bel_W]) (by first | rfl | simp [belT, belP, bel_slI, bel_slL, bel_slP, bel_ints, bel_Ps, bel_Ls, bel_encE, bel_agE, bel_Q, bel_Qs, bel_slH, bel_Hs, bel_W]) ?_; simp (maxSteps := 2000000) -implicitDefEqProofs +contextual (disch := first | assumption | omega | decide +kernel) only [push_cast, ↓capI, br2_true, br2_false, frk_tt, frk_tf, frk_f, frkD_tt, frkD_tf, frkD_f, pk2_true, pk2_false, imp_true, seval, Nat.reduceLeDiff, Nat.reduceEqDiff, reduceCtorEq, ↓reduceIte, slH, encE, agE, encT, encP, encL, encQ, encW, slI, slP, slL, cfg0, get_flat_part lenQ, get_flat_drop lenQ, len_flat lenQ, get_flat0 lenQ, get_flat_part lenP, len_flat lenP, get_flat0 lenP, eqP, Nat.mul_one, ones_Q, take_Q, ones_H, take_H, len_flat lenH, Tryz.ntmps39]
        refine endK.ret ?_ (by first | rfl | simp [belT, belP, bel_slI, bel_slL, bel_slP, bel_ints, bel_Ps, bel_Ls, bel_encE, bel_agE, bel_Q, bel_Qs, bel_slH, bel_Hs, bel_W]); simp [evRes, getT, retV, Tryz.f39,  a1, a2]
    · refine PC.walk tok mixed cfg0 Tryz.func39 rfl Tryz.call39 (by simp [belT, belP, bel_slI, bel_slL, bel_slP, bel_ints, bel_Ps, bel_Ls, bel_encE, bel_agE, bel_Q, bel_Qs, bel_slH, bel_Hs, bel_W]) (by first | rfl | simp [belT, belP, bel_slI, bel_slL, bel_slP, bel_ints, bel_Ps, bel_Ls, bel_encE, bel_agE, bel_Q, bel_Qs, bel_slH, bel_Hs, bel_W]) ?_; simp (maxSteps := 2000000) -implicitDefEqProofs +contextual (disch := first | assumption | omega | decide +kernel) only [push_cast, ↓capI, br2_true, br2_false, frk_tt, frk_tf, frk_f, frkD_tt, frkD_tf, frkD_f, pk2_true, pk2_false, imp_true, seval, Nat.reduceLeDiff, Nat.reduceEqDiff, reduceCtorEq, ↓reduceIte, slH, encE, agE, encT, encP, encL, encQ, encW, slI, slP, slL, cfg0, get_flat_part lenQ, get_flat_drop lenQ, len_flat lenQ, get_flat0 lenQ, get_flat_part lenP, len_flat lenP, get_flat0 lenP, eqP, Nat.mul_one, ones_Q, take_Q, ones_H, take_H, len_flat lenH, Tryz.ntmps39]
      refine endK.ret ?_ (by first | rfl | simp [belT, belP, bel_slI, bel_slL, bel_slP, bel_ints, bel_Ps, bel_Ls, bel_encE, bel_agE, bel_Q, bel_Qs, bel_slH, bel_Hs, bel_W]); simp [evRes, getT, retV, Tryz.f39,  h4, a1]
  refine PC.walk tok mixed cfg0 Tryz.func39 rfl Tryz.call39 (by simp [belT, belP, bel_slI, bel_slL, bel_slP, bel_ints, bel_Ps, bel_Ls, bel_encE, bel_agE, bel_Q, bel_Qs, bel_slH, bel_Hs, bel_W]) (by first | rfl | simp [belT, belP, bel_slI, bel_slL, bel_slP, bel_ints, bel_Ps, bel_Ls, bel_encE, bel_agE, bel_Q, bel_Qs, bel_slH, bel_Hs, bel_W]) ?_; simp (maxSteps := 2000000) -implicitDefEqProofs +contextual (disch := first | assumption | omega | decide +kernel) only [push_cast, ↓capI, br2_true, br2_false, frk_tt, frk_tf, frk_f, frkD_tt, frkD_tf, frkD_f, pk2_true, pk2_false, imp_true, seval, Nat.reduceLeDiff, Nat.reduceEqDiff, reduceCtorEq, ↓reduceIte, slH, encE, agE, encT, encP, encL, encQ, encW, slI, slP, slL, cfg0, get_flat_part lenQ, get_flat_drop lenQ, len_flat lenQ, get_flat0 lenQ, get_flat_part lenP, len_flat lenP, get_flat0 lenP, eqP, Nat.mul_one, ones_Q, take_Q, ones_H, take_H, len_flat lenH, Tryz.ntmps39]
  refine endK.ret ?_ (by first | rfl | simp [belT, belP, bel_slI, bel_slL, bel_slP, bel_ints, bel_Ps, bel_Ls, bel_encE, bel_agE, bel_Q, bel_Qs, bel_slH, bel_Hs, bel_W]); simp [evRes, getT, retV, Tryz.f39,  h4, k3, k4, k2]
end Go.Proofs.YtafongdfnpnneaaGreatDoor.Top

/- Chapter 53: the reference's world: its packets, what it says of an event, what it makes of one. -/
set_option maxRecDepth 100000
set_option maxHeartbeats 4000000
set_option linter.all false
namespace Go.Proofs.YtafongdfnpnneaaGreatDoor.Top
open Go.Vm

theorem slH_one {l : List Hp} : (match slH l with | V.agg _ => false | V.tup _ => false | V.opt _ _ => false | V.dead => false | _ => true) = true := rfl
theorem pc40 (w : Wd) (hf : w.fit) (i : Nat) (hi : i < w.ps.length) (p : Pk) : PC Tryz.prog 40 [.agg (encW w), .int .i64 i, .agg (encQ p)] (.agg (encW { w with ps := w.ps.set i p })) := by
  have hn := hf.n
  have hlt : (i : Int) < (w.ps.length : Int) := by omega
  have hput : putV (w.ps.flatMap encQ) (i * 5) (encQ p) = (w.ps.set i p).flatMap encQ := by
    have := put_flat lenQ (x' := p) (cs := encQ p) (o := 0) (by simp [lenQ]) w.ps i hi (by simp [encQ, putV])
    rwa [Nat.add_zero] at this
  simp only [encQ] at hput
  rw [slH] at hput
  refine PC.walk tok mixed cfg0 Tryz.func40 rfl Tryz.call40 (by simp [belT, belP, bel_slI, bel_slL, bel_slP, bel_ints, bel_Ps, bel_Ls, bel_encE, bel_agE, bel_Q, belAll_append, bel_H, bel_Qs, bel_slH, bel_Hs, bel_W]) (by first | rfl | simp [belT, belP, bel_slI, bel_slL, bel_slP, bel_ints, bel_Ps, bel_Ls, bel_encE, bel_agE, bel_Q, belAll_append, bel_H, bel_Qs, bel_slH, bel_Hs, bel_W]) ?_; simp (maxSteps := 2000000) -implicitDefEqProofs +contextual (disch := first | assumption | omega | decide +kernel) only [push_cast, ↓capI, br2_true, br2_false, frk_tt, frk_tf, frk_f, frkD_tt, frkD_tf, frkD_f, pk2_true, pk2_false, imp_true, seval, Nat.reduceLeDiff, Nat.reduceEqDiff, reduceCtorEq, ↓reduceIte, encE, agE, encT, encP, encL, encQ, encW, slI, slP, slL, cfg0, get_flat_part lenQ, get_flat_drop lenQ, len_flat lenQ, get_flat0 lenQ, get_flat_part lenP, len_flat lenP, get_flat0 lenP, eqP, Nat.mul_one, ones_Q, take_Q, ones_H, take_H, len_flat lenH, Tryz.ntmps40]
  simp (maxSteps := 2000000) -implicitDefEqProofs +contextual (disch := first | assumption | omega | decide +kernel) only [push_cast, ↓capI, br2_true, br2_false, frk_tt, frk_tf, frk_f, frkD_tt, frkD_tf, frkD_f, pk2_true, pk2_false, imp_true, seval, Nat.reduceLeDiff, Nat.reduceEqDiff, reduceCtorEq, ↓reduceIte, encE, agE, encT, encP, encL, encQ, encW, slI, slP, slL, cfg0, get_flat_part lenQ, get_flat_drop lenQ, len_flat lenQ, get_flat0 lenQ, get_flat_part lenP, len_flat lenP, get_flat0 lenP, eqP, Nat.mul_one, ones_Q, take_Q, ones_H, take_H, len_flat lenH, slH, hput]
  refine endK.gn (Gn.freeze (id := 4) rfl) ?_; refine endK.ret ?_ (by first | rfl | simp [belT, belP, bel_slI, bel_slL, bel_slP, bel_ints, bel_Ps, bel_Ls, bel_encE, bel_agE, bel_Q, belAll_append, bel_H, bel_Qs, bel_slH, bel_Hs, bel_W]); simp [belT, belP, bel_slI, bel_slL, bel_slP, bel_ints, bel_Ps, bel_Ls, bel_encE, bel_agE, bel_Q, belAll_append, bel_H, bel_Qs, bel_slH, bel_Hs, bel_W, fzs_ok, imp, lenOK_iff, List.take_of_length_le, evRes, getT, getO, setO, fzs, fz, fzH, Nat.beq, retV, Res.then, ldT, ldR, mkV, getV, tt_26, tt_61, tt_22, tt_23, tt_24, tt_3, tt_4, tt_85, tt_38, tt_52, tt_54, tt_65, tt_34, tt_46, tt_30, encE, agE, encT, encP, encL, encQ, encW, slI, slP, slL, cfg0, get_flat_part lenQ, get_flat_drop lenQ, len_flat lenQ, get_flat0 lenQ, get_flat_part lenP, len_flat lenP, get_flat0 lenP, eqP, Nat.mul_one, ones_Q, take_Q, ones_H, take_H, len_flat lenH, Tryz.f40,  encQ, take_Q, List.length_set]
theorem pc41 (t : Tp) (hf : t.fit) (p : Pk) (hp : p.hops.length ≤ 4000000) (port : Int) : PC Tryz.prog 41 [.agg (encT t), .agg (encQ p), .int .i64 port] (.agg (encQ (fwW t p port))) := by
  have h52 := pc52 t (p.at_.1, port) hf
  have h53 := pc53 t (p.at_.1, port) hf
  have htk : ∀ c : Hp, List.take ((p.hops.length + 1) * 3) (p.hops.flatMap encH ++ [V.int .i64 c.1, .int .i64 c.2.1, .int .i64 c.2.2]) = p.hops.flatMap encH ++ [V.int .i64 c.1, .int .i64 c.2.1, .int .i64 c.2.2] := fun c => List.take_of_length_le (by rw [List.length_append, len_flat lenH]; simp; omega)
  have htk := htk (p.at_.1, p.at_.2, port)
  simp only at htk
  by_cases hm : port < 0
  · rw [fwW, if_pos hm]
    refine PC.walk tok mixed cfg0 Tryz.func41 rfl Tryz.call41 (by simp [belT, belP, bel_slI, bel_slL, bel_slP, bel_ints, bel_Ps, bel_Ls, bel_encE, bel_agE, bel_Q, belAll_append, bel_H, bel_Qs, bel_slH, bel_Hs, bel_W]) (by first | rfl | simp [belT, belP, bel_slI, bel_slL, bel_slP, bel_ints, bel_Ps, bel_Ls, bel_encE, bel_agE, bel_Q, belAll_append, bel_H, bel_Qs, bel_slH, bel_Hs, bel_W]) ?_; simp (maxSteps := 2000000) -implicitDefEqProofs +contextual (disch := first | assumption | omega | decide +kernel) only [push_cast, ↓capI, br2_true, br2_false, frk_tt, frk_tf, frk_f, frkD_tt, frkD_tf, frkD_f, pk2_true, pk2_false, imp_true, seval, Nat.reduceLeDiff, Nat.reduceEqDiff, reduceCtorEq, ↓reduceIte, encE, agE, encT, encP, encL, encQ, encW, slI, slP, slL, cfg0, get_flat_part lenQ, get_flat_drop lenQ, len_flat lenQ, get_flat0 lenQ, get_flat_part lenP, len_flat lenP, get_flat0 lenP, eqP, Nat.mul_one, ones_Q, take_Q, ones_H, take_H, len_flat lenH, Tryz.ntmps41]
    simp (maxSteps := 2000000) -implicitDefEqProofs +contextual (disch := first | assumption | omega | decide +kernel) only [push_cast, ↓capI, br2_true, br2_false, frk_tt, frk_tf, frk_f, frkD_tt, frkD_tf, frkD_f, pk2_true, pk2_false, imp_true, seval, Nat.reduceLeDiff, Nat.reduceEqDiff, reduceCtorEq, ↓reduceIte, encE, agE, encT, encP, encL, encQ, encW, slI, slP, slL, cfg0, get_flat_part lenQ, get_flat_drop lenQ, len_flat lenQ, get_flat0 lenQ, get_flat_part lenP, len_flat lenP, get_flat0 lenP, eqP, Nat.mul_one, ones_Q, take_Q, ones_H, take_H, len_flat lenH, hm, slH]
    refine endK.gn (Gn.freeze (id := 4) rfl) ?_; refine endK.ret ?_ (by first | rfl | simp [belT, belP, bel_slI, bel_slL, bel_slP, bel_ints, bel_Ps, bel_Ls, bel_encE, bel_agE, bel_Q, belAll_append, bel_H, bel_Qs, bel_slH, bel_Hs, bel_W]); simp [belT, belP, bel_slI, bel_slL, bel_slP, bel_ints, bel_Ps, bel_Ls, bel_encE, bel_agE, bel_Q, belAll_append, bel_H, bel_Qs, bel_slH, bel_Hs, bel_W, fzs_ok, imp, lenOK_iff, List.take_of_length_le, evRes, getT, getO, setO, fzs, fz, fzH, Nat.beq, retV, Res.then, ldT, ldR, mkV, getV, tt_26, tt_61, tt_22, tt_23, tt_24, tt_3, tt_4, tt_85, tt_38, tt_52, tt_54, tt_65, tt_34, tt_46, tt_30, encE, agE, encT, encP, encL, encQ, encW, slI, slP, slL, cfg0, get_flat_part lenQ, get_flat_drop lenQ, len_flat lenQ, get_flat0 lenQ, get_flat_part lenP, len_flat lenP, get_flat0 lenP, eqP, Nat.mul_one, ones_Q, take_Q, ones_H, take_H, len_flat lenH, Tryz.f41,  encQ, slH, encH, htk]
  rw [fwW, if_neg hm]
  generalize hostAt t (p.at_.1, port) = ho at h52 ⊢
  generalize peer t (p.at_.1, port) = pe at h53 ⊢
  obtain ⟨h, b⟩ := ho
  obtain ⟨⟨q1, q2⟩, er⟩ := pe
  simp only
  cases b with
  | true =>
    rw [if_pos rfl]
    refine PC.walk tok mixed cfg0 Tryz.func41 rfl Tryz.call41 (by simp [belT, belP, bel_slI, bel_slL, bel_slP, bel_ints, bel_Ps, bel_Ls, bel_encE, bel_agE, bel_Q, belAll_append, bel_H, bel_Qs, bel_slH, bel_Hs, bel_W]) (by first | rfl | simp [belT, belP, bel_slI, bel_slL, bel_slP, bel_ints, bel_Ps, bel_Ls, bel_encE, bel_agE, bel_Q, belAll_append, bel_H, bel_Qs, bel_slH, bel_Hs, bel_W]) ?_; simp (maxSteps := 2000000) -implicitDefEqProofs +contextual (disch := first | assumption | omega | decide +kernel) only [push_cast, ↓capI, br2_true, br2_false, frk_tt, frk_tf, frk_f, frkD_tt, frkD_tf, frkD_f, pk2_true, pk2_false, imp_true, seval, Nat.reduceLeDiff, Nat.reduceEqDiff, reduceCtorEq, ↓reduceIte, encE, agE, encT, encP, encL, encQ, encW, slI, slP, slL, cfg0, get_flat_part lenQ, get_flat_drop lenQ, len_flat lenQ, get_flat0 lenQ, get_flat_part lenP, len_flat lenP, get_flat0 lenP, eqP, Nat.mul_one, ones_Q, take_Q, ones_H, take_H, len_flat lenH, Tryz.ntmps41]
    simp (maxSteps := 2000000) -implicitDefEqProofs +contextual (disch := first | assumption | omega | decide +kernel) only [push_cast, ↓capI, br2_true, br2_false, frk_tt, frk_tf, frk_f, frkD_tt, frkD_tf, frkD_f, pk2_true, pk2_false, imp_true, seval, Nat.reduceLeDiff, Nat.reduceEqDiff, reduceCtorEq, ↓reduceIte, encE, agE, encT, encP, encL, encQ, encW, slI, slP, slL, cfg0, get_flat_part lenQ, get_flat_drop lenQ, len_flat lenQ, get_flat0 lenQ, get_flat_part lenP, len_flat lenP, get_flat0 lenP, eqP, Nat.mul_one, ones_Q, take_Q, ones_H, take_H, len_flat lenH, hm, slH]
    refine callO.pc h52 ?_
    simp (maxSteps := 2000000) -implicitDefEqProofs +contextual (disch := first | assumption | omega | decide +kernel) only [push_cast, ↓capI, br2_true, br2_false, frk_tt, frk_tf, frk_f, frkD_tt, frkD_tf, frkD_f, pk2_true, pk2_false, imp_true, seval, Nat.reduceLeDiff, Nat.reduceEqDiff, reduceCtorEq, ↓reduceIte, encE, agE, encT, encP, encL, encQ, encW, slI, slP, slL, cfg0, get_flat_part lenQ, get_flat_drop lenQ, len_flat lenQ, get_flat0 lenQ, get_flat_part lenP, len_flat lenP, get_flat0 lenP, eqP, Nat.mul_one, ones_Q, take_Q, ones_H, take_H, len_flat lenH, encIB]
    refine endK.gn (Gn.freeze (id := 4) rfl) ?_; refine endK.ret ?_ (by first | rfl | simp [belT, belP, bel_slI, bel_slL, bel_slP, bel_ints, bel_Ps, bel_Ls, bel_encE, bel_agE, bel_Q, belAll_append, bel_H, bel_Qs, bel_slH, bel_Hs, bel_W]); simp [belT, belP, bel_slI, bel_slL, bel_slP, bel_ints, bel_Ps, bel_Ls, bel_encE, bel_agE, bel_Q, belAll_append, bel_H, bel_Qs, bel_slH, bel_Hs, bel_W, fzs_ok, imp, lenOK_iff, List.take_of_length_le, evRes, getT, getO, setO, fzs, fz, fzH, Nat.beq, retV, Res.then, ldT, ldR, mkV, getV, tt_26, tt_61, tt_22, tt_23, tt_24, tt_3, tt_4, tt_85, tt_38, tt_52, tt_54, tt_65, tt_34, tt_46, tt_30, encE, agE, encT, encP, encL, encQ, encW, slI, slP, slL, cfg0, get_flat_part lenQ, get_flat_drop lenQ, len_flat lenQ, get_flat0 lenQ, get_flat_part lenP, len_flat lenP, get_flat0 lenP, eqP, Nat.mul_one, ones_Q, take_Q, ones_H, take_H, len_flat lenH, Tryz.f41,  encQ, slH, encH, htk]
  | false =>
    rw [if_neg (by decide)]
    by_cases her : er = 0
    · rw [if_pos her]
      refine PC.walk tok mixed cfg0 Tryz.func41 rfl Tryz.call41 (by simp [belT, belP, bel_slI, bel_slL, bel_slP, bel_ints, bel_Ps, bel_Ls, bel_encE, bel_agE, bel_Q, belAll_append, bel_H, bel_Qs, bel_slH, bel_Hs, bel_W]) (by first | rfl | simp [belT, belP, bel_slI, bel_slL, bel_slP, bel_ints, bel_Ps, bel_Ls, bel_encE, bel_agE, bel_Q, belAll_append, bel_H, bel_Qs, bel_slH, bel_Hs, bel_W]) ?_; simp (maxSteps := 2000000) -implicitDefEqProofs +contextual (disch := first | assumption | omega | decide +kernel) only [push_cast, ↓capI, br2_true, br2_false, frk_tt, frk_tf, frk_f, frkD_tt, frkD_tf, frkD_f, pk2_true, pk2_false, imp_true, seval, Nat.reduceLeDiff, Nat.reduceEqDiff, reduceCtorEq, ↓reduceIte, encE, agE, encT, encP, encL, encQ, encW, slI, slP, slL, cfg0, get_flat_part lenQ, get_flat_drop lenQ, len_flat lenQ, get_flat0 lenQ, get_flat_part lenP, len_flat lenP, get_flat0 lenP, eqP, Nat.mul_one, ones_Q, take_Q, ones_H, take_H, len_flat lenH, Tryz.ntmps41]
      simp (maxSteps := 2000000) -implicitDefEqProofs +contextual (disch := first | assumption | omega | decide +kernel) only [push_cast, ↓capI, br2_true, br2_false, frk_tt, frk_tf, frk_f, frkD_tt, frkD_tf, frkD_f, pk2_true, pk2_false, imp_true, seval, Nat.reduceLeDiff, Nat.reduceEqDiff, reduceCtorEq, ↓reduceIte, encE, agE, encT, encP, encL, encQ, encW, slI, slP, slL, cfg0, get_flat_part lenQ, get_flat_drop lenQ, len_flat lenQ, get_flat0 lenQ, get_flat_part lenP, len_flat lenP, get_flat0 lenP, eqP, Nat.mul_one, ones_Q, take_Q, ones_H, take_H, len_flat lenH, hm, slH]
      refine callO.pc h52 ?_
      simp (maxSteps := 2000000) -implicitDefEqProofs +contextual (disch := first | assumption | omega | decide +kernel) only [push_cast, ↓capI, br2_true, br2_false, frk_tt, frk_tf, frk_f, frkD_tt, frkD_tf, frkD_f, pk2_true, pk2_false, imp_true, seval, Nat.reduceLeDiff, Nat.reduceEqDiff, reduceCtorEq, ↓reduceIte, encE, agE, encT, encP, encL, encQ, encW, slI, slP, slL, cfg0, get_flat_part lenQ, get_flat_drop lenQ, len_flat lenQ, get_flat0 lenQ, get_flat_part lenP, len_flat lenP, get_flat0 lenP, eqP, Nat.mul_one, ones_Q, take_Q, ones_H, take_H, len_flat lenH, encIB]
      refine callO.pc h53 ?_
      simp (maxSteps := 2000000) -implicitDefEqProofs +contextual (disch := first | assumption | omega | decide +kernel) only [push_cast, ↓capI, br2_true, br2_false, frk_tt, frk_tf, frk_f, frkD_tt, frkD_tf, frkD_f, pk2_true, pk2_false, imp_true, seval, Nat.reduceLeDiff, Nat.reduceEqDiff, reduceCtorEq, ↓reduceIte, encE, agE, encT, encP, encL, encQ, encW, slI, slP, slL, cfg0, get_flat_part lenQ, get_flat_drop lenQ, len_flat lenQ, get_flat0 lenQ, get_flat_part lenP, len_flat lenP, get_flat0 lenP, eqP, Nat.mul_one, ones_Q, take_Q, ones_H, take_H, len_flat lenH, encPE, her]
      refine endK.gn (Gn.freeze (id := 4) rfl) ?_; refine endK.ret ?_ (by first | rfl | simp [belT, belP, bel_slI, bel_slL, bel_slP, bel_ints, bel_Ps, bel_Ls, bel_encE, bel_agE, bel_Q, belAll_append, bel_H, bel_Qs, bel_slH, bel_Hs, bel_W]); simp [belT, belP, bel_slI, bel_slL, bel_slP, bel_ints, bel_Ps, bel_Ls, bel_encE, bel_agE, bel_Q, belAll_append, bel_H, bel_Qs, bel_slH, bel_Hs, bel_W, fzs_ok, imp, lenOK_iff, List.take_of_length_le, evRes, getT, getO, setO, fzs, fz, fzH, Nat.beq, retV, Res.then, ldT, ldR, mkV, getV, tt_26, tt_61, tt_22, tt_23, tt_24, tt_3, tt_4, tt_85, tt_38, tt_52, tt_54, tt_65, tt_34, tt_46, tt_30, encE, agE, encT, encP, encL, encQ, encW, slI, slP, slL, cfg0, get_flat_part lenQ, get_flat_drop lenQ, len_flat lenQ, get_flat0 lenQ, get_flat_part lenP, len_flat lenP, get_flat0 lenP, eqP, Nat.mul_one, ones_Q, take_Q, ones_H, take_H, len_flat lenH, Tryz.f41,  encQ, slH, encH, htk]
    · rw [if_neg her]
      refine PC.walk tok mixed cfg0 Tryz.func41 rfl Tryz.call41 (by simp [belT, belP, bel_slI, bel_slL, bel_slP, bel_ints, bel_Ps, bel_Ls, bel_encE, bel_agE, bel_Q, belAll_append, bel_H, bel_Qs, bel_slH, bel_Hs, bel_W]) (by first | rfl | simp [belT, belP, bel_slI, bel_slL, bel_slP, bel_ints, bel_Ps, bel_Ls, bel_encE, bel_agE, bel_Q, belAll_append, bel_H, bel_Qs, bel_slH, bel_Hs, bel_W]) ?_; simp (maxSteps := 2000000) -implicitDefEqProofs +contextual (disch := first | assumption | omega | decide +kernel) only [push_cast, ↓capI, br2_true, br2_false, frk_tt, frk_tf, frk_f, frkD_tt, frkD_tf, frkD_f, pk2_true, pk2_false, imp_true, seval, Nat.reduceLeDiff, Nat.reduceEqDiff, reduceCtorEq, ↓reduceIte, encE, agE, encT, encP, encL, encQ, encW, slI, slP, slL, cfg0, get_flat_part lenQ, get_flat_drop lenQ, len_flat lenQ, get_flat0 lenQ, get_flat_part lenP, len_flat lenP, get_flat0 lenP, eqP, Nat.mul_one, ones_Q, take_Q, ones_H, take_H, len_flat lenH, Tryz.ntmps41]
      simp (maxSteps := 2000000) -implicitDefEqProofs +contextual (disch := first | assumption | omega | decide +kernel) only [push_cast, ↓capI, br2_true, br2_false, frk_tt, frk_tf, frk_f, frkD_tt, frkD_tf, frkD_f, pk2_true, pk2_false, imp_true, seval, Nat.reduceLeDiff, Nat.reduceEqDiff, reduceCtorEq, ↓reduceIte, encE, agE, encT, encP, encL, encQ, encW, slI, slP, slL, cfg0, get_flat_part lenQ, get_flat_drop lenQ, len_flat lenQ, get_flat0 lenQ, get_flat_part lenP, len_flat lenP, get_flat0 lenP, eqP, Nat.mul_one, ones_Q, take_Q, ones_H, take_H, len_flat lenH, hm, slH]
      refine callO.pc h52 ?_
      simp (maxSteps := 2000000) -implicitDefEqProofs +contextual (disch := first | assumption | omega | decide +kernel) only [push_cast, ↓capI, br2_true, br2_false, frk_tt, frk_tf, frk_f, frkD_tt, frkD_tf, frkD_f, pk2_true, pk2_false, imp_true, seval, Nat.reduceLeDiff, Nat.reduceEqDiff, reduceCtorEq, ↓reduceIte, encE, agE, encT, encP, encL, encQ, encW, slI, slP, slL, cfg0, get_flat_part lenQ, get_flat_drop lenQ, len_flat lenQ, get_flat0 lenQ, get_flat_part lenP, len_flat lenP, get_flat0 lenP, eqP, Nat.mul_one, ones_Q, take_Q, ones_H, take_H, len_flat lenH, encIB]
      refine callO.pc h53 ?_
      simp (maxSteps := 2000000) -implicitDefEqProofs +contextual (disch := first | assumption | omega | decide +kernel) only [push_cast, ↓capI, br2_true, br2_false, frk_tt, frk_tf, frk_f, frkD_tt, frkD_tf, frkD_f, pk2_true, pk2_false, imp_true, seval, Nat.reduceLeDiff, Nat.reduceEqDiff, reduceCtorEq, ↓reduceIte, encE, agE, encT, encP, encL, encQ, encW, slI, slP, slL, cfg0, get_flat_part lenQ, get_flat_drop lenQ, len_flat lenQ, get_flat0 lenQ, get_flat_part lenP, len_flat lenP, get_flat0 lenP, eqP, Nat.mul_one, ones_Q, take_Q, ones_H, take_H, len_flat lenH, encPE, her]
      refine endK.gn (Gn.freeze (id := 4) rfl) ?_; refine endK.ret ?_ (by first | rfl | simp [belT, belP, bel_slI, bel_slL, bel_slP, bel_ints, bel_Ps, bel_Ls, bel_encE, bel_agE, bel_Q, belAll_append, bel_H, bel_Qs, bel_slH, bel_Hs, bel_W]); simp [belT, belP, bel_slI, bel_slL, bel_slP, bel_ints, bel_Ps, bel_Ls, bel_encE, bel_agE, bel_Q, belAll_append, bel_H, bel_Qs, bel_slH, bel_Hs, bel_W, fzs_ok, imp, lenOK_iff, List.take_of_length_le, evRes, getT, getO, setO, fzs, fz, fzH, Nat.beq, retV, Res.then, ldT, ldR, mkV, getV, tt_26, tt_61, tt_22, tt_23, tt_24, tt_3, tt_4, tt_85, tt_38, tt_52, tt_54, tt_65, tt_34, tt_46, tt_30, encE, agE, encT, encP, encL, encQ, encW, slI, slP, slL, cfg0, get_flat_part lenQ, get_flat_drop lenQ, len_flat lenQ, get_flat0 lenQ, get_flat_part lenP, len_flat lenP, get_flat0 lenP, eqP, Nat.mul_one, ones_Q, take_Q, ones_H, take_H, len_flat lenH, Tryz.f41,  encQ, slH, encH, htk]
end Go.Proofs.YtafongdfnpnneaaGreatDoor.Top

/- Chapter 53: the reference's world: its packets, what it says of an event, what it makes of one. -/
set_option maxRecDepth 100000
set_option maxHeartbeats 4000000
set_option linter.all false
namespace Go.Proofs.YtafongdfnpnneaaGreatDoor.Top
open Go.Vm

theorem pc20 (w : Wd) (hf : w.fit) (e : Ev) : PC Tryz.prog 20 [.agg (encW w), agE e] (.int .i64 (ckW w e)) := by
  have h38 := pc38 w hf
  have hn := hf.n
  by_cases hk : e.k < 1 ∨ 6 < e.k
  · have hE : ckW w e = 11 := by rw [ckW, if_pos hk]
    rw [hE]
    by_cases h1 : e.k < 1
    · refine PC.walk tok mixed cfg0 Tryz.func20 rfl Tryz.call20 (by simp [belT, belP, bel_slI, bel_slL, bel_slP, bel_ints, bel_Ps, bel_Ls, bel_encE, bel_agE, bel_Q, bel_Qs, bel_slH, bel_Hs, bel_W]) (by first | rfl | simp [belT, belP, bel_slI, bel_slL, bel_slP, bel_ints, bel_Ps, bel_Ls, bel_encE, bel_agE, bel_Q, bel_Qs, bel_slH, bel_Hs, bel_W]) ?_; simp (maxSteps := 2000000) -implicitDefEqProofs +contextual (disch := first | assumption | omega | decide +kernel) only [push_cast, ↓capI, br2_true, br2_false, frk_tt, frk_tf, frk_f, frkD_tt, frkD_tf, frkD_f, pk2_true, pk2_false, imp_true, seval, Nat.reduceLeDiff, Nat.reduceEqDiff, reduceCtorEq, ↓reduceIte, slH, encE, agE, encT, encP, encL, encQ, encW, slI, slP, slL, cfg0, get_flat_part lenQ, get_flat_drop lenQ, len_flat lenQ, get_flat0 lenQ, get_flat_part lenP, len_flat lenP, get_flat0 lenP, eqP, Nat.mul_one, ones_Q, take_Q, ones_H, take_H, len_flat lenH, Tryz.ntmps20]
      refine endK.ret ?_ (by first | rfl | simp [belT, belP, bel_slI, bel_slL, bel_slP, bel_ints, bel_Ps, bel_Ls, bel_encE, bel_agE, bel_Q, bel_Qs, bel_slH, bel_Hs, bel_W]); simp [evRes, getT, retV, Tryz.f20]
    · have h2 : 6 < e.k := by omega
      refine PC.walk tok mixed cfg0 Tryz.func20 rfl Tryz.call20 (by simp [belT, belP, bel_slI, bel_slL, bel_slP, bel_ints, bel_Ps, bel_Ls, bel_encE, bel_agE, bel_Q, bel_Qs, bel_slH, bel_Hs, bel_W]) (by first | rfl | simp [belT, belP, bel_slI, bel_slL, bel_slP, bel_ints, bel_Ps, bel_Ls, bel_encE, bel_agE, bel_Q, bel_Qs, bel_slH, bel_Hs, bel_W]) ?_; simp (maxSteps := 2000000) -implicitDefEqProofs +contextual (disch := first | assumption | omega | decide +kernel) only [push_cast, ↓capI, br2_true, br2_false, frk_tt, frk_tf, frk_f, frkD_tt, frkD_tf, frkD_f, pk2_true, pk2_false, imp_true, seval, Nat.reduceLeDiff, Nat.reduceEqDiff, reduceCtorEq, ↓reduceIte, slH, encE, agE, encT, encP, encL, encQ, encW, slI, slP, slL, cfg0, get_flat_part lenQ, get_flat_drop lenQ, len_flat lenQ, get_flat0 lenQ, get_flat_part lenP, len_flat lenP, get_flat0 lenP, eqP, Nat.mul_one, ones_Q, take_Q, ones_H, take_H, len_flat lenH, Tryz.ntmps20]
      refine endK.ret ?_ (by first | rfl | simp [belT, belP, bel_slI, bel_slL, bel_slP, bel_ints, bel_Ps, bel_Ls, bel_encE, bel_agE, bel_Q, bel_Qs, bel_slH, bel_Hs, bel_W]); simp [evRes, getT, retV, Tryz.f20]
  have h1 : ¬ e.k < 1 := by omega
  have h6 : ¬ 6 < e.k := by omega
  have hE : ckW w e = if 0 ≤ busyW w ∧ (e.a ≠ busyW w ∨ (e.k ≠ 3 ∧ e.k ≠ 4)) then 14
    else if e.k = 1 then (if e.b < 0 ∨ (w.t.hosts.length : Int) ≤ e.b then 9 else if e.a ≠ w.ps.length then 14 else 0)
    else if e.k = 5 then (if e.a < 1 ∨ 3 < e.a ∨ e.b < 0 then 9 else 0)
    else if e.k = 6 then (if e.a < 0 ∨ (w.t.links.length : Int) ≤ e.a then 8 else if e.b ≠ 0 ∧ e.b ≠ 1 then 9 else 0)
    else if e.a < 0 ∨ (w.ps.length : Int) ≤ e.a then 8 else pkW w e := by rw [ckW, if_neg hk]
  rw [hE]
  clear hE
  have h39 := pc39 w hf e
  generalize busyW w = b at h38 ⊢
  generalize pkW w e = c at h39 ⊢
  obtain ⟨ek, ea, eb, ec⟩ := e
  simp only at h1 h6 h39 hk ⊢
  by_cases hb : 0 ≤ b ∧ (ea ≠ b ∨ (ek ≠ 3 ∧ ek ≠ 4))
  · rw [if_pos hb]
    obtain ⟨hb0, hb1⟩ := hb
    by_cases hab : ea = b
    · have h34 := hb1.resolve_left (fun h => h hab)
      have h3 := h34.1
      have h4 := h34.2
      refine PC.walk tok mixed cfg0 Tryz.func20 rfl Tryz.call20 (by simp [belT, belP, bel_slI, bel_slL, bel_slP, bel_ints, bel_Ps, bel_Ls, bel_encE, bel_agE, bel_Q, bel_Qs, bel_slH, bel_Hs, bel_W]) (by first | rfl | simp [belT, belP, bel_slI, bel_slL, bel_slP, bel_ints, bel_Ps, bel_Ls, bel_encE, bel_agE, bel_Q, bel_Qs, bel_slH, bel_Hs, bel_W]) ?_; simp (maxSteps := 2000000) -implicitDefEqProofs +contextual (disch := first | assumption | omega | decide +kernel) only [push_cast, ↓capI, br2_true, br2_false, frk_tt, frk_tf, frk_f, frkD_tt, frkD_tf, frkD_f, pk2_true, pk2_false, imp_true, seval, Nat.reduceLeDiff, Nat.reduceEqDiff, reduceCtorEq, ↓reduceIte, slH, encE, agE, encT, encP, encL, encQ, encW, slI, slP, slL, cfg0, get_flat_part lenQ, get_flat_drop lenQ, len_flat lenQ, get_flat0 lenQ, get_flat_part lenP, len_flat lenP, get_flat0 lenP, eqP, Nat.mul_one, ones_Q, take_Q, ones_H, take_H, len_flat lenH, Tryz.ntmps20]
      refine callO.pc h38 ?_
      simp (maxSteps := 2000000) -implicitDefEqProofs +contextual (disch := first | assumption | omega | decide +kernel) only [push_cast, ↓capI, br2_true, br2_false, frk_tt, frk_tf, frk_f, frkD_tt, frkD_tf, frkD_f, pk2_true, pk2_false, imp_true, seval, Nat.reduceLeDiff, Nat.reduceEqDiff, reduceCtorEq, ↓reduceIte, slH, encE, agE, encT, encP, encL, encQ, encW, slI, slP, slL, cfg0, get_flat_part lenQ, get_flat_drop lenQ, len_flat lenQ, get_flat0 lenQ, get_flat_part lenP, len_flat lenP, get_flat0 lenP, eqP, Nat.mul_one, ones_Q, take_Q, ones_H, take_H, len_flat lenH, hab, h3, h4]
      refine endK.ret ?_ (by first | rfl | simp [belT, belP, bel_slI, bel_slL, bel_slP, bel_ints, bel_Ps, bel_Ls, bel_encE, bel_agE, bel_Q, bel_Qs, bel_slH, bel_Hs, bel_W]); simp [evRes, getT, retV, Tryz.f20]
    · refine PC.walk tok mixed cfg0 Tryz.func20 rfl Tryz.call20 (by simp [belT, belP, bel_slI, bel_slL, bel_slP, bel_ints, bel_Ps, bel_Ls, bel_encE, bel_agE, bel_Q, bel_Qs, bel_slH, bel_Hs, bel_W]) (by first | rfl | simp [belT, belP, bel_slI, bel_slL, bel_slP, bel_ints, bel_Ps, bel_Ls, bel_encE, bel_agE, bel_Q, bel_Qs, bel_slH, bel_Hs, bel_W]) ?_; simp (maxSteps := 2000000) -implicitDefEqProofs +contextual (disch := first | assumption | omega | decide +kernel) only [push_cast, ↓capI, br2_true, br2_false, frk_tt, frk_tf, frk_f, frkD_tt, frkD_tf, frkD_f, pk2_true, pk2_false, imp_true, seval, Nat.reduceLeDiff, Nat.reduceEqDiff, reduceCtorEq, ↓reduceIte, slH, encE, agE, encT, encP, encL, encQ, encW, slI, slP, slL, cfg0, get_flat_part lenQ, get_flat_drop lenQ, len_flat lenQ, get_flat0 lenQ, get_flat_part lenP, len_flat lenP, get_flat0 lenP, eqP, Nat.mul_one, ones_Q, take_Q, ones_H, take_H, len_flat lenH, Tryz.ntmps20]
      refine callO.pc h38 ?_
      simp (maxSteps := 2000000) -implicitDefEqProofs +contextual (disch := first | assumption | omega | decide +kernel) only [push_cast, ↓capI, br2_true, br2_false, frk_tt, frk_tf, frk_f, frkD_tt, frkD_tf, frkD_f, pk2_true, pk2_false, imp_true, seval, Nat.reduceLeDiff, Nat.reduceEqDiff, reduceCtorEq, ↓reduceIte, slH, encE, agE, encT, encP, encL, encQ, encW, slI, slP, slL, cfg0, get_flat_part lenQ, get_flat_drop lenQ, len_flat lenQ, get_flat0 lenQ, get_flat_part lenP, len_flat lenP, get_flat0 lenP, eqP, Nat.mul_one, ones_Q, take_Q, ones_H, take_H, len_flat lenH, hab]
      refine endK.ret ?_ (by first | rfl | simp [belT, belP, bel_slI, bel_slL, bel_slP, bel_ints, bel_Ps, bel_Ls, bel_encE, bel_agE, bel_Q, bel_Qs, bel_slH, bel_Hs, bel_W]); simp [evRes, getT, retV, Tryz.f20]
  rw [if_neg hb]
  have hgo : ¬ 0 ≤ b ∨ (ea = b ∧ (ek = 3 ∨ ek = 4)) := by
    by_cases h0 : 0 ≤ b
    · right
      refine ⟨?_, ?_⟩
      · apply Decidable.byContradiction; intro h; exact hb ⟨h0, .inl h⟩
      · apply Decidable.byContradiction; intro h; exact hb ⟨h0, .inr ⟨fun x => h (.inl x), fun x => h (.inr x)⟩⟩
    · exact .inl h0
  have htail : ∀ (hk : ek = 2 ∨ ek = 3 ∨ ek = 4) (hg : ¬ 0 ≤ b ∨ (ea = b ∧ (ek = 3 ∨ ek = 4))), PC Tryz.prog 20 [.agg (encW w), agE ⟨ek, ea, eb, ec⟩] (.int .i64 (if ea < 0 ∨ (w.ps.length : Int) ≤ ea then 8 else c)) := by
    intro hk hg
    have fin : ∀ (hk : ek = 2 ∨ ek = 3 ∨ ek = 4) (hq : ¬ 0 ≤ b ∨ (ea = b ∧ (ek = 3 ∨ ek = 4))), True := fun _ _ => trivial
    rcases hk with rfl | rfl | rfl
    · have hb0 : ¬ 0 ≤ b := hg.resolve_right (by omega)
      refine PC.walk tok mixed cfg0 Tryz.func20 rfl Tryz.call20 (by simp [belT, belP, bel_slI, bel_slL, bel_slP, bel_ints, bel_Ps, bel_Ls, bel_encE, bel_agE, bel_Q, bel_Qs, bel_slH, bel_Hs, bel_W]) (by first | rfl | simp [belT, belP, bel_slI, bel_slL, bel_slP, bel_ints, bel_Ps, bel_Ls, bel_encE, bel_agE, bel_Q, bel_Qs, bel_slH, bel_Hs, bel_W]) ?_; simp (maxSteps := 2000000) -implicitDefEqProofs +contextual (disch := first | assumption | omega | decide +kernel) only [push_cast, ↓capI, br2_true, br2_false, frk_tt, frk_tf, frk_f, frkD_tt, frkD_tf, frkD_f, pk2_true, pk2_false, imp_true, seval, Nat.reduceLeDiff, Nat.reduceEqDiff, reduceCtorEq, ↓reduceIte, slH, encE, agE, encT, encP, encL, encQ, encW, slI, slP, slL, cfg0, get_flat_part lenQ, get_flat_drop lenQ, len_flat lenQ, get_flat0 lenQ, get_flat_part lenP, len_flat lenP, get_flat0 lenP, eqP, Nat.mul_one, ones_Q, take_Q, ones_H, take_H, len_flat lenH, Tryz.ntmps20]
      refine callO.pc h38 ?_
      by_cases e1 : ea < 0
      · simp (maxSteps := 2000000) -implicitDefEqProofs +contextual (disch := first | assumption | omega | decide +kernel) only [push_cast, ↓capI, br2_true, br2_false, frk_tt, frk_tf, frk_f, frkD_tt, frkD_tf, frkD_f, pk2_true, pk2_false, imp_true, seval, Nat.reduceLeDiff, Nat.reduceEqDiff, reduceCtorEq, ↓reduceIte, slH, encE, agE, encT, encP, encL, encQ, encW, slI, slP, slL, cfg0, get_flat_part lenQ, get_flat_drop lenQ, len_flat lenQ, get_flat0 lenQ, get_flat_part lenP, len_flat lenP, get_flat0 lenP, eqP, Nat.mul_one, ones_Q, take_Q, ones_H, take_H, len_flat lenH, hb0, e1]
        refine endK.ret ?_ (by first | rfl | simp [belT, belP, bel_slI, bel_slL, bel_slP, bel_ints, bel_Ps, bel_Ls, bel_encE, bel_agE, bel_Q, bel_Qs, bel_slH, bel_Hs, bel_W]); simp [evRes, getT, retV, Tryz.f20,  e1]
      by_cases e2 : (w.ps.length : Int) ≤ ea
      · simp (maxSteps := 2000000) -implicitDefEqProofs +contextual (disch := first | assumption | omega | decide +kernel) only [push_cast, ↓capI, br2_true, br2_false, frk_tt, frk_tf, frk_f, frkD_tt, frkD_tf, frkD_f, pk2_true, pk2_false, imp_true, seval, Nat.reduceLeDiff, Nat.reduceEqDiff, reduceCtorEq, ↓reduceIte, slH, encE, agE, encT, encP, encL, encQ, encW, slI, slP, slL, cfg0, get_flat_part lenQ, get_flat_drop lenQ, len_flat lenQ, get_flat0 lenQ, get_flat_part lenP, len_flat lenP, get_flat0 lenP, eqP, Nat.mul_one, ones_Q, take_Q, ones_H, take_H, len_flat lenH, hb0, e1, e2]
        refine endK.ret ?_ (by first | rfl | simp [belT, belP, bel_slI, bel_slL, bel_slP, bel_ints, bel_Ps, bel_Ls, bel_encE, bel_agE, bel_Q, bel_Qs, bel_slH, bel_Hs, bel_W]); simp [evRes, getT, retV, Tryz.f20,  e1, e2]
      · simp (maxSteps := 2000000) -implicitDefEqProofs +contextual (disch := first | assumption | omega | decide +kernel) only [push_cast, ↓capI, br2_true, br2_false, frk_tt, frk_tf, frk_f, frkD_tt, frkD_tf, frkD_f, pk2_true, pk2_false, imp_true, seval, Nat.reduceLeDiff, Nat.reduceEqDiff, reduceCtorEq, ↓reduceIte, slH, encE, agE, encT, encP, encL, encQ, encW, slI, slP, slL, cfg0, get_flat_part lenQ, get_flat_drop lenQ, len_flat lenQ, get_flat0 lenQ, get_flat_part lenP, len_flat lenP, get_flat0 lenP, eqP, Nat.mul_one, ones_Q, take_Q, ones_H, take_H, len_flat lenH, hb0, e1, e2]
        refine callO.pc (h39 (by omega) (by omega)) ?_
        simp (maxSteps := 2000000) -implicitDefEqProofs +contextual (disch := first | assumption | omega | decide +kernel) only [push_cast, ↓capI, br2_true, br2_false, frk_tt, frk_tf, frk_f, frkD_tt, frkD_tf, frkD_f, pk2_true, pk2_false, imp_true, seval, Nat.reduceLeDiff, Nat.reduceEqDiff, reduceCtorEq, ↓reduceIte, slH, encE, agE, encT, encP, encL, encQ, encW, slI, slP, slL, cfg0, get_flat_part lenQ, get_flat_drop lenQ, len_flat lenQ, get_flat0 lenQ, get_flat_part lenP, len_flat lenP, get_flat0 lenP, eqP, Nat.mul_one, ones_Q, take_Q, ones_H, take_H, len_flat lenH]
        refine endK.ret ?_ (by first | rfl | simp [belT, belP, bel_slI, bel_slL, bel_slP, bel_ints, bel_Ps, bel_Ls, bel_encE, bel_agE, bel_Q, bel_Qs, bel_slH, bel_Hs, bel_W]); simp [evRes, getT, retV, Tryz.f20,  e1, e2]
    · rcases hg with hb0 | ⟨hab, _⟩
      · refine PC.walk tok mixed cfg0 Tryz.func20 rfl Tryz.call20 (by simp [belT, belP, bel_slI, bel_slL, bel_slP, bel_ints, bel_Ps, bel_Ls, bel_encE, bel_agE, bel_Q, bel_Qs, bel_slH, bel_Hs, bel_W]) (by first | rfl | simp [belT, belP, bel_slI, bel_slL, bel_slP, bel_ints, bel_Ps, bel_Ls, bel_encE, bel_agE, bel_Q, bel_Qs, bel_slH, bel_Hs, bel_W]) ?_; simp (maxSteps := 2000000) -implicitDefEqProofs +contextual (disch := first | assumption | omega | decide +kernel) only [push_cast, ↓capI, br2_true, br2_false, frk_tt, frk_tf, frk_f, frkD_tt, frkD_tf, frkD_f, pk2_true, pk2_false, imp_true, seval, Nat.reduceLeDiff, Nat.reduceEqDiff, reduceCtorEq, ↓reduceIte, slH, encE, agE, encT, encP, encL, encQ, encW, slI, slP, slL, cfg0, get_flat_part lenQ, get_flat_drop lenQ, len_flat lenQ, get_flat0 lenQ, get_flat_part lenP, len_flat lenP, get_flat0 lenP, eqP, Nat.mul_one, ones_Q, take_Q, ones_H, take_H, len_flat lenH, Tryz.ntmps20]
        refine callO.pc h38 ?_
        by_cases e1 : ea < 0
        · simp (maxSteps := 2000000) -implicitDefEqProofs +contextual (disch := first | assumption | omega | decide +kernel) only [push_cast, ↓capI, br2_true, br2_false, frk_tt, frk_tf, frk_f, frkD_tt, frkD_tf, frkD_f, pk2_true, pk2_false, imp_true, seval, Nat.reduceLeDiff, Nat.reduceEqDiff, reduceCtorEq, ↓reduceIte, slH, encE, agE, encT, encP, encL, encQ, encW, slI, slP, slL, cfg0, get_flat_part lenQ, get_flat_drop lenQ, len_flat lenQ, get_flat0 lenQ, get_flat_part lenP, len_flat lenP, get_flat0 lenP, eqP, Nat.mul_one, ones_Q, take_Q, ones_H, take_H, len_flat lenH, hb0, e1]
          refine endK.ret ?_ (by first | rfl | simp [belT, belP, bel_slI, bel_slL, bel_slP, bel_ints, bel_Ps, bel_Ls, bel_encE, bel_agE, bel_Q, bel_Qs, bel_slH, bel_Hs, bel_W]); simp [evRes, getT, retV, Tryz.f20,  e1]
        by_cases e2 : (w.ps.length : Int) ≤ ea
        · simp (maxSteps := 2000000) -implicitDefEqProofs +contextual (disch := first | assumption | omega | decide +kernel) only [push_cast, ↓capI, br2_true, br2_false, frk_tt, frk_tf, frk_f, frkD_tt, frkD_tf, frkD_f, pk2_true, pk2_false, imp_true, seval, Nat.reduceLeDiff, Nat.reduceEqDiff, reduceCtorEq, ↓reduceIte, slH, encE, agE, encT, encP, encL, encQ, encW, slI, slP, slL, cfg0, get_flat_part lenQ, get_flat_drop lenQ, len_flat lenQ, get_flat0 lenQ, get_flat_part lenP, len_flat lenP, get_flat0 lenP, eqP, Nat.mul_one, ones_Q, take_Q, ones_H, take_H, len_flat lenH, hb0, e1, e2]
          refine endK.ret ?_ (by first | rfl | simp [belT, belP, bel_slI, bel_slL, bel_slP, bel_ints, bel_Ps, bel_Ls, bel_encE, bel_agE, bel_Q, bel_Qs, bel_slH, bel_Hs, bel_W]); simp [evRes, getT, retV, Tryz.f20,  e1, e2]
        · simp (maxSteps := 2000000) -implicitDefEqProofs +contextual (disch := first | assumption | omega | decide +kernel) only [push_cast, ↓capI, br2_true, br2_false, frk_tt, frk_tf, frk_f, frkD_tt, frkD_tf, frkD_f, pk2_true, pk2_false, imp_true, seval, Nat.reduceLeDiff, Nat.reduceEqDiff, reduceCtorEq, ↓reduceIte, slH, encE, agE, encT, encP, encL, encQ, encW, slI, slP, slL, cfg0, get_flat_part lenQ, get_flat_drop lenQ, len_flat lenQ, get_flat0 lenQ, get_flat_part lenP, len_flat lenP, get_flat0 lenP, eqP, Nat.mul_one, ones_Q, take_Q, ones_H, take_H, len_flat lenH, hb0, e1, e2]
          refine callO.pc (h39 (by omega) (by omega)) ?_
          simp (maxSteps := 2000000) -implicitDefEqProofs +contextual (disch := first | assumption | omega | decide +kernel) only [push_cast, ↓capI, br2_true, br2_false, frk_tt, frk_tf, frk_f, frkD_tt, frkD_tf, frkD_f, pk2_true, pk2_false, imp_true, seval, Nat.reduceLeDiff, Nat.reduceEqDiff, reduceCtorEq, ↓reduceIte, slH, encE, agE, encT, encP, encL, encQ, encW, slI, slP, slL, cfg0, get_flat_part lenQ, get_flat_drop lenQ, len_flat lenQ, get_flat0 lenQ, get_flat_part lenP, len_flat lenP, get_flat0 lenP, eqP, Nat.mul_one, ones_Q, take_Q, ones_H, take_H, len_flat lenH]
          refine endK.ret ?_ (by first | rfl | simp [belT, belP, bel_slI, bel_slL, bel_slP, bel_ints, bel_Ps, bel_Ls, bel_encE, bel_agE, bel_Q, bel_Qs, bel_slH, bel_Hs, bel_W]); simp [evRes, getT, retV, Tryz.f20,  e1, e2]
      · subst hab
        refine PC.walk tok mixed cfg0 Tryz.func20 rfl Tryz.call20 (by simp [belT, belP, bel_slI, bel_slL, bel_slP, bel_ints, bel_Ps, bel_Ls, bel_encE, bel_agE, bel_Q, bel_Qs, bel_slH, bel_Hs, bel_W]) (by first | rfl | simp [belT, belP, bel_slI, bel_slL, bel_slP, bel_ints, bel_Ps, bel_Ls, bel_encE, bel_agE, bel_Q, bel_Qs, bel_slH, bel_Hs, bel_W]) ?_; simp (maxSteps := 2000000) -implicitDefEqProofs +contextual (disch := first | assumption | omega | decide +kernel) only [push_cast, ↓capI, br2_true, br2_false, frk_tt, frk_tf, frk_f, frkD_tt, frkD_tf, frkD_f, pk2_true, pk2_false, imp_true, seval, Nat.reduceLeDiff, Nat.reduceEqDiff, reduceCtorEq, ↓reduceIte, slH, encE, agE, encT, encP, encL, encQ, encW, slI, slP, slL, cfg0, get_flat_part lenQ, get_flat_drop lenQ, len_flat lenQ, get_flat0 lenQ, get_flat_part lenP, len_flat lenP, get_flat0 lenP, eqP, Nat.mul_one, ones_Q, take_Q, ones_H, take_H, len_flat lenH, Tryz.ntmps20]
        refine callO.pc h38 ?_
        by_cases e1 : ea < 0
        · have hn0 : ¬ 0 ≤ ea := by omega
          simp (maxSteps := 2000000) -implicitDefEqProofs +contextual (disch := first | assumption | omega | decide +kernel) only [push_cast, ↓capI, br2_true, br2_false, frk_tt, frk_tf, frk_f, frkD_tt, frkD_tf, frkD_f, pk2_true, pk2_false, imp_true, seval, Nat.reduceLeDiff, Nat.reduceEqDiff, reduceCtorEq, ↓reduceIte, slH, encE, agE, encT, encP, encL, encQ, encW, slI, slP, slL, cfg0, get_flat_part lenQ, get_flat_drop lenQ, len_flat lenQ, get_flat0 lenQ, get_flat_part lenP, len_flat lenP, get_flat0 lenP, eqP, Nat.mul_one, ones_Q, take_Q, ones_H, take_H, len_flat lenH, hn0, e1]
          refine endK.ret ?_ (by first | rfl | simp [belT, belP, bel_slI, bel_slL, bel_slP, bel_ints, bel_Ps, bel_Ls, bel_encE, bel_agE, bel_Q, bel_Qs, bel_slH, bel_Hs, bel_W]); simp [evRes, getT, retV, Tryz.f20,  e1]
        have hy0 : 0 ≤ ea := by omega
        by_cases e2 : (w.ps.length : Int) ≤ ea
        · simp (maxSteps := 2000000) -implicitDefEqProofs +contextual (disch := first | assumption | omega | decide +kernel) only [push_cast, ↓capI, br2_true, br2_false, frk_tt, frk_tf, frk_f, frkD_tt, frkD_tf, frkD_f, pk2_true, pk2_false, imp_true, seval, Nat.reduceLeDiff, Nat.reduceEqDiff, reduceCtorEq, ↓reduceIte, slH, encE, agE, encT, encP, encL, encQ, encW, slI, slP, slL, cfg0, get_flat_part lenQ, get_flat_drop lenQ, len_flat lenQ, get_flat0 lenQ, get_flat_part lenP, len_flat lenP, get_flat0 lenP, eqP, Nat.mul_one, ones_Q, take_Q, ones_H, take_H, len_flat lenH, hy0, e1, e2]
          refine endK.ret ?_ (by first | rfl | simp [belT, belP, bel_slI, bel_slL, bel_slP, bel_ints, bel_Ps, bel_Ls, bel_encE, bel_agE, bel_Q, bel_Qs, bel_slH, bel_Hs, bel_W]); simp [evRes, getT, retV, Tryz.f20,  e1, e2]
        · simp (maxSteps := 2000000) -implicitDefEqProofs +contextual (disch := first | assumption | omega | decide +kernel) only [push_cast, ↓capI, br2_true, br2_false, frk_tt, frk_tf, frk_f, frkD_tt, frkD_tf, frkD_f, pk2_true, pk2_false, imp_true, seval, Nat.reduceLeDiff, Nat.reduceEqDiff, reduceCtorEq, ↓reduceIte, slH, encE, agE, encT, encP, encL, encQ, encW, slI, slP, slL, cfg0, get_flat_part lenQ, get_flat_drop lenQ, len_flat lenQ, get_flat0 lenQ, get_flat_part lenP, len_flat lenP, get_flat0 lenP, eqP, Nat.mul_one, ones_Q, take_Q, ones_H, take_H, len_flat lenH, hy0, e1, e2]
          refine callO.pc (h39 (by omega) (by omega)) ?_
          simp (maxSteps := 2000000) -implicitDefEqProofs +contextual (disch := first | assumption | omega | decide +kernel) only [push_cast, ↓capI, br2_true, br2_false, frk_tt, frk_tf, frk_f, frkD_tt, frkD_tf, frkD_f, pk2_true, pk2_false, imp_true, seval, Nat.reduceLeDiff, Nat.reduceEqDiff, reduceCtorEq, ↓reduceIte, slH, encE, agE, encT, encP, encL, encQ, encW, slI, slP, slL, cfg0, get_flat_part lenQ, get_flat_drop lenQ, len_flat lenQ, get_flat0 lenQ, get_flat_part lenP, len_flat lenP, get_flat0 lenP, eqP, Nat.mul_one, ones_Q, take_Q, ones_H, take_H, len_flat lenH]
          refine endK.ret ?_ (by first | rfl | simp [belT, belP, bel_slI, bel_slL, bel_slP, bel_ints, bel_Ps, bel_Ls, bel_encE, bel_agE, bel_Q, bel_Qs, bel_slH, bel_Hs, bel_W]); simp [evRes, getT, retV, Tryz.f20,  e1, e2]
    · rcases hg with hb0 | ⟨hab, _⟩
      · refine PC.walk tok mixed cfg0 Tryz.func20 rfl Tryz.call20 (by simp [belT, belP, bel_slI, bel_slL, bel_slP, bel_ints, bel_Ps, bel_Ls, bel_encE, bel_agE, bel_Q, bel_Qs, bel_slH, bel_Hs, bel_W]) (by first | rfl | simp [belT, belP, bel_slI, bel_slL, bel_slP, bel_ints, bel_Ps, bel_Ls, bel_encE, bel_agE, bel_Q, bel_Qs, bel_slH, bel_Hs, bel_W]) ?_; simp (maxSteps := 2000000) -implicitDefEqProofs +contextual (disch := first | assumption | omega | decide +kernel) only [push_cast, ↓capI, br2_true, br2_false, frk_tt, frk_tf, frk_f, frkD_tt, frkD_tf, frkD_f, pk2_true, pk2_false, imp_true, seval, Nat.reduceLeDiff, Nat.reduceEqDiff, reduceCtorEq, ↓reduceIte, slH, encE, agE, encT, encP, encL, encQ, encW, slI, slP, slL, cfg0, get_flat_part lenQ, get_flat_drop lenQ, len_flat lenQ, get_flat0 lenQ, get_flat_part lenP, len_flat lenP, get_flat0 lenP, eqP, Nat.mul_one, ones_Q, take_Q, ones_H, take_H, len_flat lenH, Tryz.ntmps20]
        refine callO.pc h38 ?_
        by_cases e1 : ea < 0
        · simp (maxSteps := 2000000) -implicitDefEqProofs +contextual (disch := first | assumption | omega | decide +kernel) only [push_cast, ↓capI, br2_true, br2_false, frk_tt, frk_tf, frk_f, frkD_tt, frkD_tf, frkD_f, pk2_true, pk2_false, imp_true, seval, Nat.reduceLeDiff, Nat.reduceEqDiff, reduceCtorEq, ↓reduceIte, slH, encE, agE, encT, encP, encL, encQ, encW, slI, slP, slL, cfg0, get_flat_part lenQ, get_flat_drop lenQ, len_flat lenQ, get_flat0 lenQ, get_flat_part lenP, len_flat lenP, get_flat0 lenP, eqP, Nat.mul_one, ones_Q, take_Q, ones_H, take_H, len_flat lenH, hb0, e1]
          refine endK.ret ?_ (by first | rfl | simp [belT, belP, bel_slI, bel_slL, bel_slP, bel_ints, bel_Ps, bel_Ls, bel_encE, bel_agE, bel_Q, bel_Qs, bel_slH, bel_Hs, bel_W]); simp [evRes, getT, retV, Tryz.f20,  e1]
        by_cases e2 : (w.ps.length : Int) ≤ ea
        · simp (maxSteps := 2000000) -implicitDefEqProofs +contextual (disch := first | assumption | omega | decide +kernel) only [push_cast, ↓capI, br2_true, br2_false, frk_tt, frk_tf, frk_f, frkD_tt, frkD_tf, frkD_f, pk2_true, pk2_false, imp_true, seval, Nat.reduceLeDiff, Nat.reduceEqDiff, reduceCtorEq, ↓reduceIte, slH, encE, agE, encT, encP, encL, encQ, encW, slI, slP, slL, cfg0, get_flat_part lenQ, get_flat_drop lenQ, len_flat lenQ, get_flat0 lenQ, get_flat_part lenP, len_flat lenP, get_flat0 lenP, eqP, Nat.mul_one, ones_Q, take_Q, ones_H, take_H, len_flat lenH, hb0, e1, e2]
          refine endK.ret ?_ (by first | rfl | simp [belT, belP, bel_slI, bel_slL, bel_slP, bel_ints, bel_Ps, bel_Ls, bel_encE, bel_agE, bel_Q, bel_Qs, bel_slH, bel_Hs, bel_W]); simp [evRes, getT, retV, Tryz.f20,  e1, e2]
        · simp (maxSteps := 2000000) -implicitDefEqProofs +contextual (disch := first | assumption | omega | decide +kernel) only [push_cast, ↓capI, br2_true, br2_false, frk_tt, frk_tf, frk_f, frkD_tt, frkD_tf, frkD_f, pk2_true, pk2_false, imp_true, seval, Nat.reduceLeDiff, Nat.reduceEqDiff, reduceCtorEq, ↓reduceIte, slH, encE, agE, encT, encP, encL, encQ, encW, slI, slP, slL, cfg0, get_flat_part lenQ, get_flat_drop lenQ, len_flat lenQ, get_flat0 lenQ, get_flat_part lenP, len_flat lenP, get_flat0 lenP, eqP, Nat.mul_one, ones_Q, take_Q, ones_H, take_H, len_flat lenH, hb0, e1, e2]
          refine callO.pc (h39 (by omega) (by omega)) ?_
          simp (maxSteps := 2000000) -implicitDefEqProofs +contextual (disch := first | assumption | omega | decide +kernel) only [push_cast, ↓capI, br2_true, br2_false, frk_tt, frk_tf, frk_f, frkD_tt, frkD_tf, frkD_f, pk2_true, pk2_false, imp_true, seval, Nat.reduceLeDiff, Nat.reduceEqDiff, reduceCtorEq, ↓reduceIte, slH, encE, agE, encT, encP, encL, encQ, encW, slI, slP, slL, cfg0, get_flat_part lenQ, get_flat_drop lenQ, len_flat lenQ, get_flat0 lenQ, get_flat_part lenP, len_flat lenP, get_flat0 lenP, eqP, Nat.mul_one, ones_Q, take_Q, ones_H, take_H, len_flat lenH]
          refine endK.ret ?_ (by first | rfl | simp [belT, belP, bel_slI, bel_slL, bel_slP, bel_ints, bel_Ps, bel_Ls, bel_encE, bel_agE, bel_Q, bel_Qs, bel_slH, bel_Hs, bel_W]); simp [evRes, getT, retV, Tryz.f20,  e1, e2]
      · subst hab
        refine PC.walk tok mixed cfg0 Tryz.func20 rfl Tryz.call20 (by simp [belT, belP, bel_slI, bel_slL, bel_slP, bel_ints, bel_Ps, bel_Ls, bel_encE, bel_agE, bel_Q, bel_Qs, bel_slH, bel_Hs, bel_W]) (by first | rfl | simp [belT, belP, bel_slI, bel_slL, bel_slP, bel_ints, bel_Ps, bel_Ls, bel_encE, bel_agE, bel_Q, bel_Qs, bel_slH, bel_Hs, bel_W]) ?_; simp (maxSteps := 2000000) -implicitDefEqProofs +contextual (disch := first | assumption | omega | decide +kernel) only [push_cast, ↓capI, br2_true, br2_false, frk_tt, frk_tf, frk_f, frkD_tt, frkD_tf, frkD_f, pk2_true, pk2_false, imp_true, seval, Nat.reduceLeDiff, Nat.reduceEqDiff, reduceCtorEq, ↓reduceIte, slH, encE, agE, encT, encP, encL, encQ, encW, slI, slP, slL, cfg0, get_flat_part lenQ, get_flat_drop lenQ, len_flat lenQ, get_flat0 lenQ, get_flat_part lenP, len_flat lenP, get_flat0 lenP, eqP, Nat.mul_one, ones_Q, take_Q, ones_H, take_H, len_flat lenH, Tryz.ntmps20]
        refine callO.pc h38 ?_
        by_cases e1 : ea < 0
        · have hn0 : ¬ 0 ≤ ea := by omega
          simp (maxSteps := 2000000) -implicitDefEqProofs +contextual (disch := first | assumption | omega | decide +kernel) only [push_cast, ↓capI, br2_true, br2_false, frk_tt, frk_tf, frk_f, frkD_tt, frkD_tf, frkD_f, pk2_true, pk2_false, imp_true, seval, Nat.reduceLeDiff, Nat.reduceEqDiff, reduceCtorEq, ↓reduceIte, slH, encE, agE, encT, encP, encL, encQ, encW, slI, slP, slL, cfg0, get_flat_part lenQ, get_flat_drop lenQ, len_flat lenQ, get_flat0 lenQ, get_flat_part lenP, len_flat lenP, get_flat0 lenP, eqP, Nat.mul_one, ones_Q, take_Q, ones_H, take_H, len_flat lenH, hn0, e1]
          refine endK.ret ?_ (by first | rfl | simp [belT, belP, bel_slI, bel_slL, bel_slP, bel_ints, bel_Ps, bel_Ls, bel_encE, bel_agE, bel_Q, bel_Qs, bel_slH, bel_Hs, bel_W]); simp [evRes, getT, retV, Tryz.f20,  e1]
        have hy0 : 0 ≤ ea := by omega
        by_cases e2 : (w.ps.length : Int) ≤ ea
        · simp (maxSteps := 2000000) -implicitDefEqProofs +contextual (disch := first | assumption | omega | decide +kernel) only [push_cast, ↓capI, br2_true, br2_false, frk_tt, frk_tf, frk_f, frkD_tt, frkD_tf, frkD_f, pk2_true, pk2_false, imp_true, seval, Nat.reduceLeDiff, Nat.reduceEqDiff, reduceCtorEq, ↓reduceIte, slH, encE, agE, encT, encP, encL, encQ, encW, slI, slP, slL, cfg0, get_flat_part lenQ, get_flat_drop lenQ, len_flat lenQ, get_flat0 lenQ, get_flat_part lenP, len_flat lenP, get_flat0 lenP, eqP, Nat.mul_one, ones_Q, take_Q, ones_H, take_H, len_flat lenH, hy0, e1, e2]
          refine endK.ret ?_ (by first | rfl | simp [belT, belP, bel_slI, bel_slL, bel_slP, bel_ints, bel_Ps, bel_Ls, bel_encE, bel_agE, bel_Q, bel_Qs, bel_slH, bel_Hs, bel_W]); simp [evRes, getT, retV, Tryz.f20,  e1, e2]
        · simp (maxSteps := 2000000) -implicitDefEqProofs +contextual (disch := first | assumption | omega | decide +kernel) only [push_cast, ↓capI, br2_true, br2_false, frk_tt, frk_tf, frk_f, frkD_tt, frkD_tf, frkD_f, pk2_true, pk2_false, imp_true, seval, Nat.reduceLeDiff, Nat.reduceEqDiff, reduceCtorEq, ↓reduceIte, slH, encE, agE, encT, encP, encL, encQ, encW, slI, slP, slL, cfg0, get_flat_part lenQ, get_flat_drop lenQ, len_flat lenQ, get_flat0 lenQ, get_flat_part lenP, len_flat lenP, get_flat0 lenP, eqP, Nat.mul_one, ones_Q, take_Q, ones_H, take_H, len_flat lenH, hy0, e1, e2]
          refine callO.pc (h39 (by omega) (by omega)) ?_
          simp (maxSteps := 2000000) -implicitDefEqProofs +contextual (disch := first | assumption | omega | decide +kernel) only [push_cast, ↓capI, br2_true, br2_false, frk_tt, frk_tf, frk_f, frkD_tt, frkD_tf, frkD_f, pk2_true, pk2_false, imp_true, seval, Nat.reduceLeDiff, Nat.reduceEqDiff, reduceCtorEq, ↓reduceIte, slH, encE, agE, encT, encP, encL, encQ, encW, slI, slP, slL, cfg0, get_flat_part lenQ, get_flat_drop lenQ, len_flat lenQ, get_flat0 lenQ, get_flat_part lenP, len_flat lenP, get_flat0 lenP, eqP, Nat.mul_one, ones_Q, take_Q, ones_H, take_H, len_flat lenH]
          refine endK.ret ?_ (by first | rfl | simp [belT, belP, bel_slI, bel_slL, bel_slP, bel_ints, bel_Ps, bel_Ls, bel_encE, bel_agE, bel_Q, bel_Qs, bel_slH, bel_Hs, bel_W]); simp [evRes, getT, retV, Tryz.f20,  e1, e2]
  by_cases k1 : ek = 1
  · subst k1
    have hb0 : ¬ 0 ≤ b := hgo.resolve_right (by omega)
    rw [if_pos rfl]
    refine PC.walk tok mixed cfg0 Tryz.func20 rfl Tryz.call20 (by simp [belT, belP, bel_slI, bel_slL, bel_slP, bel_ints, bel_Ps, bel_Ls, bel_encE, bel_agE, bel_Q, bel_Qs, bel_slH, bel_Hs, bel_W]) (by first | rfl | simp [belT, belP, bel_slI, bel_slL, bel_slP, bel_ints, bel_Ps, bel_Ls, bel_encE, bel_agE, bel_Q, bel_Qs, bel_slH, bel_Hs, bel_W]) ?_; simp (maxSteps := 2000000) -implicitDefEqProofs +contextual (disch := first | assumption | omega | decide +kernel) only [push_cast, ↓capI, br2_true, br2_false, frk_tt, frk_tf, frk_f, frkD_tt, frkD_tf, frkD_f, pk2_true, pk2_false, imp_true, seval, Nat.reduceLeDiff, Nat.reduceEqDiff, reduceCtorEq, ↓reduceIte, slH, encE, agE, encT, encP, encL, encQ, encW, slI, slP, slL, cfg0, get_flat_part lenQ, get_flat_drop lenQ, len_flat lenQ, get_flat0 lenQ, get_flat_part lenP, len_flat lenP, get_flat0 lenP, eqP, Nat.mul_one, ones_Q, take_Q, ones_H, take_H, len_flat lenH, Tryz.ntmps20]
    refine callO.pc h38 ?_
    simp (maxSteps := 2000000) -implicitDefEqProofs +contextual (disch := first | assumption | omega | decide +kernel) only [push_cast, ↓capI, br2_true, br2_false, frk_tt, frk_tf, frk_f, frkD_tt, frkD_tf, frkD_f, pk2_true, pk2_false, imp_true, seval, Nat.reduceLeDiff, Nat.reduceEqDiff, reduceCtorEq, ↓reduceIte, slH, encE, agE, encT, encP, encL, encQ, encW, slI, slP, slL, cfg0, get_flat_part lenQ, get_flat_drop lenQ, len_flat lenQ, get_flat0 lenQ, get_flat_part lenP, len_flat lenP, get_flat0 lenP, eqP, Nat.mul_one, ones_Q, take_Q, ones_H, take_H, len_flat lenH, hb0]
    repeat' (first | intro _ | refine And.intro ?_ ?_)
    all_goals refine endK.ret ?_ (by first | rfl | simp [belT, belP, bel_slI, bel_slL, bel_slP, bel_ints, bel_Ps, bel_Ls, bel_encE, bel_agE, bel_Q, bel_Qs, bel_slH, bel_Hs, bel_W]); simp [evRes, getT, retV, Tryz.f20,  *]
  rw [if_neg k1]
  by_cases k5 : ek = 5
  · subst k5
    have hb0 : ¬ 0 ≤ b := hgo.resolve_right (by omega)
    rw [if_pos rfl]
    refine PC.walk tok mixed cfg0 Tryz.func20 rfl Tryz.call20 (by simp [belT, belP, bel_slI, bel_slL, bel_slP, bel_ints, bel_Ps, bel_Ls, bel_encE, bel_agE, bel_Q, bel_Qs, bel_slH, bel_Hs, bel_W]) (by first | rfl | simp [belT, belP, bel_slI, bel_slL, bel_slP, bel_ints, bel_Ps, bel_Ls, bel_encE, bel_agE, bel_Q, bel_Qs, bel_slH, bel_Hs, bel_W]) ?_; simp (maxSteps := 2000000) -implicitDefEqProofs +contextual (disch := first | assumption | omega | decide +kernel) only [push_cast, ↓capI, br2_true, br2_false, frk_tt, frk_tf, frk_f, frkD_tt, frkD_tf, frkD_f, pk2_true, pk2_false, imp_true, seval, Nat.reduceLeDiff, Nat.reduceEqDiff, reduceCtorEq, ↓reduceIte, slH, encE, agE, encT, encP, encL, encQ, encW, slI, slP, slL, cfg0, get_flat_part lenQ, get_flat_drop lenQ, len_flat lenQ, get_flat0 lenQ, get_flat_part lenP, len_flat lenP, get_flat0 lenP, eqP, Nat.mul_one, ones_Q, take_Q, ones_H, take_H, len_flat lenH, Tryz.ntmps20]
    refine callO.pc h38 ?_
    simp (maxSteps := 2000000) -implicitDefEqProofs +contextual (disch := first | assumption | omega | decide +kernel) only [push_cast, ↓capI, br2_true, br2_false, frk_tt, frk_tf, frk_f, frkD_tt, frkD_tf, frkD_f, pk2_true, pk2_false, imp_true, seval, Nat.reduceLeDiff, Nat.reduceEqDiff, reduceCtorEq, ↓reduceIte, slH, encE, agE, encT, encP, encL, encQ, encW, slI, slP, slL, cfg0, get_flat_part lenQ, get_flat_drop lenQ, len_flat lenQ, get_flat0 lenQ, get_flat_part lenP, len_flat lenP, get_flat0 lenP, eqP, Nat.mul_one, ones_Q, take_Q, ones_H, take_H, len_flat lenH, hb0]
    repeat' (first | intro _ | refine And.intro ?_ ?_)
    all_goals refine endK.ret ?_ (by first | rfl | simp [belT, belP, bel_slI, bel_slL, bel_slP, bel_ints, bel_Ps, bel_Ls, bel_encE, bel_agE, bel_Q, bel_Qs, bel_slH, bel_Hs, bel_W]); simp [evRes, getT, retV, Tryz.f20,  *]
  rw [if_neg k5]
  by_cases k6 : ek = 6
  · subst k6
    have hb0 : ¬ 0 ≤ b := hgo.resolve_right (by omega)
    rw [if_pos rfl]
    refine PC.walk tok mixed cfg0 Tryz.func20 rfl Tryz.call20 (by simp [belT, belP, bel_slI, bel_slL, bel_slP, bel_ints, bel_Ps, bel_Ls, bel_encE, bel_agE, bel_Q, bel_Qs, bel_slH, bel_Hs, bel_W]) (by first | rfl | simp [belT, belP, bel_slI, bel_slL, bel_slP, bel_ints, bel_Ps, bel_Ls, bel_encE, bel_agE, bel_Q, bel_Qs, bel_slH, bel_Hs, bel_W]) ?_; simp (maxSteps := 2000000) -implicitDefEqProofs +contextual (disch := first | assumption | omega | decide +kernel) only [push_cast, ↓capI, br2_true, br2_false, frk_tt, frk_tf, frk_f, frkD_tt, frkD_tf, frkD_f, pk2_true, pk2_false, imp_true, seval, Nat.reduceLeDiff, Nat.reduceEqDiff, reduceCtorEq, ↓reduceIte, slH, encE, agE, encT, encP, encL, encQ, encW, slI, slP, slL, cfg0, get_flat_part lenQ, get_flat_drop lenQ, len_flat lenQ, get_flat0 lenQ, get_flat_part lenP, len_flat lenP, get_flat0 lenP, eqP, Nat.mul_one, ones_Q, take_Q, ones_H, take_H, len_flat lenH, Tryz.ntmps20]
    refine callO.pc h38 ?_
    simp (maxSteps := 2000000) -implicitDefEqProofs +contextual (disch := first | assumption | omega | decide +kernel) only [push_cast, ↓capI, br2_true, br2_false, frk_tt, frk_tf, frk_f, frkD_tt, frkD_tf, frkD_f, pk2_true, pk2_false, imp_true, seval, Nat.reduceLeDiff, Nat.reduceEqDiff, reduceCtorEq, ↓reduceIte, slH, encE, agE, encT, encP, encL, encQ, encW, slI, slP, slL, cfg0, get_flat_part lenQ, get_flat_drop lenQ, len_flat lenQ, get_flat0 lenQ, get_flat_part lenP, len_flat lenP, get_flat0 lenP, eqP, Nat.mul_one, ones_Q, take_Q, ones_H, take_H, len_flat lenH, hb0]
    repeat' (first | intro _ | refine And.intro ?_ ?_)
    all_goals refine endK.ret ?_ (by first | rfl | simp [belT, belP, bel_slI, bel_slL, bel_slP, bel_ints, bel_Ps, bel_Ls, bel_encE, bel_agE, bel_Q, bel_Qs, bel_slH, bel_Hs, bel_W]); simp [evRes, getT, retV, Tryz.f20,  *]
  rw [if_neg k6]
  exact htail (by omega) hgo
end Go.Proofs.YtafongdfnpnneaaGreatDoor.Top

/- Chapter 53: the reference's world: its packets, what it says of an event, what it makes of one. -/
set_option maxRecDepth 100000
set_option maxHeartbeats 4000000
set_option linter.all false
namespace Go.Proofs.YtafongdfnpnneaaGreatDoor.Top
open Go.Vm

theorem lax_Hs : ∀ (l : List Hp), laxs (l.flatMap encH) = l.flatMap encH
  | [] => rfl
  | x :: l => by rw [List.flatMap_cons, laxs_append, lax_Hs l]; rfl
theorem lax_Qs : ∀ (l : List Pk), laxs (l.flatMap encQ) = l.flatMap encQ
  | [] => rfl
  | x :: l => by
    rw [List.flatMap_cons, laxs_append, lax_Qs l]
    congr 1
    simp only [encQ, laxs, Go.Vm.lax, slH, lax_Hs]
theorem lax_Is : ∀ (l : List Int), laxs (l.map (V.int .i64)) = l.map (V.int .i64)
  | [] => rfl
  | x :: l => by rw [List.map_cons, laxs, lax_Is l]; rfl
theorem lax_Ls : ∀ (l : List Lk), laxs (l.flatMap encL) = l.flatMap encL
  | [] => rfl
  | x :: l => by rw [List.flatMap_cons, laxs_append, lax_Ls l]; rfl
theorem lax_Ps : ∀ (l : List (Int × Int)), laxs (l.flatMap encP) = l.flatMap encP
  | [] => rfl
  | x :: l => by rw [List.flatMap_cons, laxs_append, lax_Ps l]; rfl
theorem pc21_1 (w : Wd) (hf : w.fit) (e : Ev) (i : Nat) (hk : e.k = 1) (hb : e.b = i) (hi : i < w.t.hosts.length) : PC Tryz.prog 21 [.agg (encW w), agE e] (.agg (encW (nextW w e))) := by
  have hn := hf.n
  have hh := hf.t.hosts
  have hg : w.t.hosts.getD i (0, 0) = w.t.hosts[i] := by rw [List.getD_eq_getElem?_getD, List.getElem?_eq_getElem hi]; rfl
  have hE : nextW w e = { w with ps := w.ps ++ [⟨1, w.t.hosts[i], 0, []⟩] } := by rw [nextW, if_pos hk, hb, Int.toNat_natCast, hg]
  rw [hE]
  obtain ⟨ek, ea, eb, ec⟩ := e
  simp only at hk hb
  subst hk hb
  have hlt : (i : Int) < (w.t.hosts.length : Int) := by omega
  have htk : List.take ((w.ps.length + 1) * 5) (w.ps.flatMap encQ ++ [V.int .i64 1, .int .i64 w.t.hosts[i].fst, .int .i64 w.t.hosts[i].snd, .int .i64 0, .sl true [] 0]) = w.ps.flatMap encQ ++ [V.int .i64 1, .int .i64 w.t.hosts[i].fst, .int .i64 w.t.hosts[i].snd, .int .i64 0, .sl true [] 0] := List.take_of_length_le (by rw [List.length_append, len_flat lenQ]; simp; omega)
  have key : PC Tryz.prog 21 [.agg (encW w), agE ⟨1, ea, i, ec⟩] (.agg [slI w.t.ports, slL w.t.links, slP w.t.hosts, .sl false (w.ps.flatMap encQ ++ [V.int .i64 1, .int .i64 w.t.hosts[i].fst, .int .i64 w.t.hosts[i].snd, .int .i64 0, .sl true [] 0]) (w.ps.length + 1)]) := by
    refine PC.walk tok mixed cfg0 Tryz.func21 rfl Tryz.call21 (by simp [belT, belP, bel_slI, bel_slL, bel_slP, bel_ints, bel_Ps, bel_Ls, bel_encE, bel_agE, bel_Q, belAll_append, bel_H, bel_Qs, bel_slH, bel_Hs, bel_W]) (by first | rfl | simp [belT, belP, bel_slI, bel_slL, bel_slP, bel_ints, bel_Ps, bel_Ls, bel_encE, bel_agE, bel_Q, belAll_append, bel_H, bel_Qs, bel_slH, bel_Hs, bel_W]) ?_; simp (maxSteps := 2000000) -implicitDefEqProofs +contextual (disch := first | assumption | omega | decide +kernel) only [push_cast, ↓capI, br2_true, br2_false, frk_tt, frk_tf, frk_f, frkD_tt, frkD_tf, frkD_f, pk2_true, pk2_false, imp_true, seval, Nat.reduceLeDiff, Nat.reduceEqDiff, reduceCtorEq, ↓reduceIte, encE, agE, encT, encP, encL, encQ, encW, slI, slP, slL, cfg0, get_flat_part lenQ, get_flat_drop lenQ, len_flat lenQ, get_flat0 lenQ, get_flat_part lenP, len_flat lenP, get_flat0 lenP, eqP, Nat.mul_one, ones_Q, take_Q, ones_H, take_H, len_flat lenH, Tryz.ntmps21]
    refine endK.gn (Gn.freeze (id := 4) rfl) ?_; refine endK.ret ?_ (by first | rfl | simp [belT, belP, bel_slI, bel_slL, bel_slP, bel_ints, bel_Ps, bel_Ls, bel_encE, bel_agE, bel_Q, belAll_append, bel_H, bel_Qs, bel_slH, bel_Hs, bel_W]); simp [belT, belP, bel_slI, bel_slL, bel_slP, bel_ints, bel_Ps, bel_Ls, bel_encE, bel_agE, bel_Q, belAll_append, bel_H, bel_Qs, bel_slH, bel_Hs, bel_W, fzs_ok, imp, lenOK_iff, List.take_of_length_le, evRes, getT, getO, setO, fzs, fz, fzH, Nat.beq, retV, Res.then, ldT, ldR, mkV, getV, tt_26, tt_61, tt_22, tt_23, tt_24, tt_3, tt_4, tt_85, tt_38, tt_52, tt_54, tt_65, tt_34, tt_46, tt_30, encE, agE, encT, encP, encL, encQ, encW, slI, slP, slL, cfg0, get_flat_part lenQ, get_flat_drop lenQ, len_flat lenQ, get_flat0 lenQ, get_flat_part lenP, len_flat lenP, get_flat0 lenP, eqP, Nat.mul_one, ones_Q, take_Q, ones_H, take_H, len_flat lenH, Tryz.f21,  htk]
  have e : Go.Vm.lax (.agg [slI w.t.ports, slL w.t.links, slP w.t.hosts, .sl false (w.ps.flatMap encQ ++ [V.int .i64 1, .int .i64 w.t.hosts[i].fst, .int .i64 w.t.hosts[i].snd, .int .i64 0, .sl true [] 0]) (w.ps.length + 1)]) = .agg (encW { w with ps := w.ps ++ [⟨1, w.t.hosts[i], 0, []⟩] }) := by
    simp only [encW, slI, slL, slP, Go.Vm.lax, laxs, laxs_append, lax_Qs, lax_Is, lax_Ls, lax_Ps, List.flatMap_append, List.flatMap_cons, List.flatMap_nil, List.append_nil, encQ, slH, List.length_append, List.length_cons, List.length_nil, Nat.zero_add]
  rw [← e]
  exact key.laxr
theorem pc21_2 (w : Wd) (hf : w.fit) (e : Ev) (i : Nat) (hk : e.k = 2) (ha : e.a = i) (hi : i < w.ps.length) : PC Tryz.prog 21 [.agg (encW w), agE e] (.agg (encW (nextW w e))) := by
  have hn := hf.n
  have hp : pkAt w e = w.ps[i] := by rw [pkAt, ha, Int.toNat_natCast, List.getD_eq_getElem?_getD, List.getElem?_eq_getElem hi]; rfl
  have hE : nextW w e = { w with ps := w.ps.set i (fwW w.t w.ps[i] e.c) } := by rw [nextW, if_neg (by omega), if_pos hk, hp, ha, Int.toNat_natCast]
  rw [hE]
  obtain ⟨ek, ea, eb, ec⟩ := e
  simp only at hk ha
  subst hk ha
  have hlt : (i : Int) < (w.ps.length : Int) := by omega
  have h41 := pc41 w.t hf.t w.ps[i] (hf.hops _ (List.getElem_mem hi)) ec
  have h40 := pc40 w hf i hi (fwW w.t w.ps[i] ec)
  generalize fwW w.t w.ps[i] ec = q at h41 h40 ⊢
  refine PC.walk tok mixed cfg0 Tryz.func21 rfl Tryz.call21 (by simp [belT, belP, bel_slI, bel_slL, bel_slP, bel_ints, bel_Ps, bel_Ls, bel_encE, bel_agE, bel_Q, belAll_append, bel_H, bel_Qs, bel_slH, bel_Hs, bel_W]) (by first | rfl | simp [belT, belP, bel_slI, bel_slL, bel_slP, bel_ints, bel_Ps, bel_Ls, bel_encE, bel_agE, bel_Q, belAll_append, bel_H, bel_Qs, bel_slH, bel_Hs, bel_W]) ?_; simp (maxSteps := 2000000) -implicitDefEqProofs +contextual (disch := first | assumption | omega | decide +kernel) only [push_cast, ↓capI, br2_true, br2_false, frk_tt, frk_tf, frk_f, frkD_tt, frkD_tf, frkD_f, pk2_true, pk2_false, imp_true, seval, Nat.reduceLeDiff, Nat.reduceEqDiff, reduceCtorEq, ↓reduceIte, encE, agE, encT, encP, encL, encQ, encW, slI, slP, slL, cfg0, get_flat_part lenQ, get_flat_drop lenQ, len_flat lenQ, get_flat0 lenQ, get_flat_part lenP, len_flat lenP, get_flat0 lenP, eqP, Nat.mul_one, ones_Q, take_Q, ones_H, take_H, len_flat lenH, Tryz.ntmps21]
  refine callG.pc1 h41 ?_
  simp (maxSteps := 2000000) -implicitDefEqProofs +contextual (disch := first | assumption | omega | decide +kernel) only [push_cast, ↓capI, br2_true, br2_false, frk_tt, frk_tf, frk_f, frkD_tt, frkD_tf, frkD_f, pk2_true, pk2_false, imp_true, seval, Nat.reduceLeDiff, Nat.reduceEqDiff, reduceCtorEq, ↓reduceIte, encE, agE, encT, encP, encL, encQ, encW, slI, slP, slL, cfg0, get_flat_part lenQ, get_flat_drop lenQ, len_flat lenQ, get_flat0 lenQ, get_flat_part lenP, len_flat lenP, get_flat0 lenP, eqP, Nat.mul_one, ones_Q, take_Q, ones_H, take_H, len_flat lenH]
  refine callG.pc1 h40 ?_
  simp (maxSteps := 2000000) -implicitDefEqProofs +contextual (disch := first | assumption | omega | decide +kernel) only [push_cast, ↓capI, br2_true, br2_false, frk_tt, frk_tf, frk_f, frkD_tt, frkD_tf, frkD_f, pk2_true, pk2_false, imp_true, seval, Nat.reduceLeDiff, Nat.reduceEqDiff, reduceCtorEq, ↓reduceIte, encE, agE, encT, encP, encL, encQ, encW, slI, slP, slL, cfg0, get_flat_part lenQ, get_flat_drop lenQ, len_flat lenQ, get_flat0 lenQ, get_flat_part lenP, len_flat lenP, get_flat0 lenP, eqP, Nat.mul_one, ones_Q, take_Q, ones_H, take_H, len_flat lenH, slH]
  refine endK.ret ?_ (by first | rfl | simp [belT, belP, bel_slI, bel_slL, bel_slP, bel_ints, bel_Ps, bel_Ls, bel_encE, bel_agE, bel_Q, belAll_append, bel_H, bel_Qs, bel_slH, bel_Hs, bel_W]); simp [belT, belP, bel_slI, bel_slL, bel_slP, bel_ints, bel_Ps, bel_Ls, bel_encE, bel_agE, bel_Q, belAll_append, bel_H, bel_Qs, bel_slH, bel_Hs, bel_W, fzs_ok, imp, lenOK_iff, List.take_of_length_le, evRes, getT, getO, setO, fzs, fz, fzH, Nat.beq, retV, Res.then, ldT, ldR, mkV, getV, tt_26, tt_61, tt_22, tt_23, tt_24, tt_3, tt_4, tt_85, tt_38, tt_52, tt_54, tt_65, tt_34, tt_46, tt_30, encE, agE, encT, encP, encL, encQ, encW, slI, slP, slL, cfg0, get_flat_part lenQ, get_flat_drop lenQ, len_flat lenQ, get_flat0 lenQ, get_flat_part lenP, len_flat lenP, get_flat0 lenP, eqP, Nat.mul_one, ones_Q, take_Q, ones_H, take_H, len_flat lenH, Tryz.f21,  slH]
theorem pc21_3 (w : Wd) (hf : w.fit) (e : Ev) (i : Nat) (hk : e.k = 3 ∨ e.k = 4) (ha : e.a = i) (hi : i < w.ps.length) : PC Tryz.prog 21 [.agg (encW w), agE e] (.agg (encW (nextW w e))) := by
  have hn := hf.n
  have hp : pkAt w e = w.ps[i] := by rw [pkAt, ha, Int.toNat_natCast, List.getD_eq_getElem?_getD, List.getElem?_eq_getElem hi]; rfl
  have hE : nextW w e = { w with ps := w.ps.set i ⟨4, (0, 0), 0, w.ps[i].hops⟩ } := by rw [nextW, if_neg (by omega), if_neg (by omega), if_pos hk, hp, ha, Int.toNat_natCast]
  rw [hE]
  obtain ⟨ek, ea, eb, ec⟩ := e
  simp only at hk ha
  subst ha
  have hlt : (i : Int) < (w.ps.length : Int) := by omega
  have h40 := pc40 w hf i hi ⟨4, (0, 0), 0, w.ps[i].hops⟩
  rcases hk with rfl | rfl
  · refine PC.walk tok mixed cfg0 Tryz.func21 rfl Tryz.call21 (by simp [belT, belP, bel_slI, bel_slL, bel_slP, bel_ints, bel_Ps, bel_Ls, bel_encE, bel_agE, bel_Q, belAll_append, bel_H, bel_Qs, bel_slH, bel_Hs, bel_W]) (by first | rfl | simp [belT, belP, bel_slI, bel_slL, bel_slP, bel_ints, bel_Ps, bel_Ls, bel_encE, bel_agE, bel_Q, belAll_append, bel_H, bel_Qs, bel_slH, bel_Hs, bel_W]) ?_; simp (maxSteps := 2000000) -implicitDefEqProofs +contextual (disch := first | assumption | omega | decide +kernel) only [push_cast, ↓capI, br2_true, br2_false, frk_tt, frk_tf, frk_f, frkD_tt, frkD_tf, frkD_f, pk2_true, pk2_false, imp_true, seval, Nat.reduceLeDiff, Nat.reduceEqDiff, reduceCtorEq, ↓reduceIte, encE, agE, encT, encP, encL, encQ, encW, slI, slP, slL, cfg0, get_flat_part lenQ, get_flat_drop lenQ, len_flat lenQ, get_flat0 lenQ, get_flat_part lenP, len_flat lenP, get_flat0 lenP, eqP, Nat.mul_one, ones_Q, take_Q, ones_H, take_H, len_flat lenH, Tryz.ntmps21]
    simp (maxSteps := 2000000) -implicitDefEqProofs +contextual (disch := first | assumption | omega | decide +kernel) only [push_cast, ↓capI, br2_true, br2_false, frk_tt, frk_tf, frk_f, frkD_tt, frkD_tf, frkD_f, pk2_true, pk2_false, imp_true, seval, Nat.reduceLeDiff, Nat.reduceEqDiff, reduceCtorEq, ↓reduceIte, encE, agE, encT, encP, encL, encQ, encW, slI, slP, slL, cfg0, get_flat_part lenQ, get_flat_drop lenQ, len_flat lenQ, get_flat0 lenQ, get_flat_part lenP, len_flat lenP, get_flat0 lenP, eqP, Nat.mul_one, ones_Q, take_Q, ones_H, take_H, len_flat lenH, slH]
    refine callO.pc h40 ?_
    simp (maxSteps := 2000000) -implicitDefEqProofs +contextual (disch := first | assumption | omega | decide +kernel) only [push_cast, ↓capI, br2_true, br2_false, frk_tt, frk_tf, frk_f, frkD_tt, frkD_tf, frkD_f, pk2_true, pk2_false, imp_true, seval, Nat.reduceLeDiff, Nat.reduceEqDiff, reduceCtorEq, ↓reduceIte, encE, agE, encT, encP, encL, encQ, encW, slI, slP, slL, cfg0, get_flat_part lenQ, get_flat_drop lenQ, len_flat lenQ, get_flat0 lenQ, get_flat_part lenP, len_flat lenP, get_flat0 lenP, eqP, Nat.mul_one, ones_Q, take_Q, ones_H, take_H, len_flat lenH, slH]
    refine endK.ret ?_ (by first | rfl | simp [belT, belP, bel_slI, bel_slL, bel_slP, bel_ints, bel_Ps, bel_Ls, bel_encE, bel_agE, bel_Q, belAll_append, bel_H, bel_Qs, bel_slH, bel_Hs, bel_W]); simp [belT, belP, bel_slI, bel_slL, bel_slP, bel_ints, bel_Ps, bel_Ls, bel_encE, bel_agE, bel_Q, belAll_append, bel_H, bel_Qs, bel_slH, bel_Hs, bel_W, fzs_ok, imp, lenOK_iff, List.take_of_length_le, evRes, getT, getO, setO, fzs, fz, fzH, Nat.beq, retV, Res.then, ldT, ldR, mkV, getV, tt_26, tt_61, tt_22, tt_23, tt_24, tt_3, tt_4, tt_85, tt_38, tt_52, tt_54, tt_65, tt_34, tt_46, tt_30, encE, agE, encT, encP, encL, encQ, encW, slI, slP, slL, cfg0, get_flat_part lenQ, get_flat_drop lenQ, len_flat lenQ, get_flat0 lenQ, get_flat_part lenP, len_flat lenP, get_flat0 lenP, eqP, Nat.mul_one, ones_Q, take_Q, ones_H, take_H, len_flat lenH, Tryz.f21,  slH]
  · refine PC.walk tok mixed cfg0 Tryz.func21 rfl Tryz.call21 (by simp [belT, belP, bel_slI, bel_slL, bel_slP, bel_ints, bel_Ps, bel_Ls, bel_encE, bel_agE, bel_Q, belAll_append, bel_H, bel_Qs, bel_slH, bel_Hs, bel_W]) (by first | rfl | simp [belT, belP, bel_slI, bel_slL, bel_slP, bel_ints, bel_Ps, bel_Ls, bel_encE, bel_agE, bel_Q, belAll_append, bel_H, bel_Qs, bel_slH, bel_Hs, bel_W]) ?_; simp (maxSteps := 2000000) -implicitDefEqProofs +contextual (disch := first | assumption | omega | decide +kernel) only [push_cast, ↓capI, br2_true, br2_false, frk_tt, frk_tf, frk_f, frkD_tt, frkD_tf, frkD_f, pk2_true, pk2_false, imp_true, seval, Nat.reduceLeDiff, Nat.reduceEqDiff, reduceCtorEq, ↓reduceIte, encE, agE, encT, encP, encL, encQ, encW, slI, slP, slL, cfg0, get_flat_part lenQ, get_flat_drop lenQ, len_flat lenQ, get_flat0 lenQ, get_flat_part lenP, len_flat lenP, get_flat0 lenP, eqP, Nat.mul_one, ones_Q, take_Q, ones_H, take_H, len_flat lenH, Tryz.ntmps21]
    simp (maxSteps := 2000000) -implicitDefEqProofs +contextual (disch := first | assumption | omega | decide +kernel) only [push_cast, ↓capI, br2_true, br2_false, frk_tt, frk_tf, frk_f, frkD_tt, frkD_tf, frkD_f, pk2_true, pk2_false, imp_true, seval, Nat.reduceLeDiff, Nat.reduceEqDiff, reduceCtorEq, ↓reduceIte, encE, agE, encT, encP, encL, encQ, encW, slI, slP, slL, cfg0, get_flat_part lenQ, get_flat_drop lenQ, len_flat lenQ, get_flat0 lenQ, get_flat_part lenP, len_flat lenP, get_flat0 lenP, eqP, Nat.mul_one, ones_Q, take_Q, ones_H, take_H, len_flat lenH, slH]
    refine callO.pc h40 ?_
    simp (maxSteps := 2000000) -implicitDefEqProofs +contextual (disch := first | assumption | omega | decide +kernel) only [push_cast, ↓capI, br2_true, br2_false, frk_tt, frk_tf, frk_f, frkD_tt, frkD_tf, frkD_f, pk2_true, pk2_false, imp_true, seval, Nat.reduceLeDiff, Nat.reduceEqDiff, reduceCtorEq, ↓reduceIte, encE, agE, encT, encP, encL, encQ, encW, slI, slP, slL, cfg0, get_flat_part lenQ, get_flat_drop lenQ, len_flat lenQ, get_flat0 lenQ, get_flat_part lenP, len_flat lenP, get_flat0 lenP, eqP, Nat.mul_one, ones_Q, take_Q, ones_H, take_H, len_flat lenH, slH]
    refine endK.ret ?_ (by first | rfl | simp [belT, belP, bel_slI, bel_slL, bel_slP, bel_ints, bel_Ps, bel_Ls, bel_encE, bel_agE, bel_Q, belAll_append, bel_H, bel_Qs, bel_slH, bel_Hs, bel_W]); simp [belT, belP, bel_slI, bel_slL, bel_slP, bel_ints, bel_Ps, bel_Ls, bel_encE, bel_agE, bel_Q, belAll_append, bel_H, bel_Qs, bel_slH, bel_Hs, bel_W, fzs_ok, imp, lenOK_iff, List.take_of_length_le, evRes, getT, getO, setO, fzs, fz, fzH, Nat.beq, retV, Res.then, ldT, ldR, mkV, getV, tt_26, tt_61, tt_22, tt_23, tt_24, tt_3, tt_4, tt_85, tt_38, tt_52, tt_54, tt_65, tt_34, tt_46, tt_30, encE, agE, encT, encP, encL, encQ, encW, slI, slP, slL, cfg0, get_flat_part lenQ, get_flat_drop lenQ, len_flat lenQ, get_flat0 lenQ, get_flat_part lenP, len_flat lenP, get_flat0 lenP, eqP, Nat.mul_one, ones_Q, take_Q, ones_H, take_H, len_flat lenH, Tryz.f21,  slH]
theorem pc21_6 (w : Wd) (hf : w.fit) (e : Ev) (hk : e.k = 6) : PC Tryz.prog 21 [.agg (encW w), agE e] (.agg (encW (nextW w e))) := by
  have hE : nextW w e = { w with t := (setL w.t e.a (decide (e.b = 1))).1 } := by rw [nextW, if_neg (by omega), if_neg (by omega), if_neg (by omega), if_pos hk]
  rw [hE]
  obtain ⟨ek, ea, eb, ec⟩ := e
  simp only at hk
  subst hk
  have h42 := pcr42 w.t ea (decide (eb = 1)) hf.t hf.ports
  generalize setL w.t ea (decide (eb = 1)) = q at h42 ⊢
  obtain ⟨t2, er⟩ := q
  have hd : (eb == 1) = decide (eb = 1) := rfl
  refine PC.walk tok mixed cfg0 Tryz.func21 rfl Tryz.call21 (by simp [belT, belP, bel_slI, bel_slL, bel_slP, bel_ints, bel_Ps, bel_Ls, bel_encE, bel_agE, bel_Q, belAll_append, bel_H, bel_Qs, bel_slH, bel_Hs, bel_W]) (by first | rfl | simp [belT, belP, bel_slI, bel_slL, bel_slP, bel_ints, bel_Ps, bel_Ls, bel_encE, bel_agE, bel_Q, belAll_append, bel_H, bel_Qs, bel_slH, bel_Hs, bel_W]) ?_; simp (maxSteps := 2000000) -implicitDefEqProofs +contextual (disch := first | assumption | omega | decide +kernel) only [push_cast, ↓capI, br2_true, br2_false, frk_tt, frk_tf, frk_f, frkD_tt, frkD_tf, frkD_f, pk2_true, pk2_false, imp_true, seval, Nat.reduceLeDiff, Nat.reduceEqDiff, reduceCtorEq, ↓reduceIte, encE, agE, encT, encP, encL, encQ, encW, slI, slP, slL, cfg0, get_flat_part lenQ, get_flat_drop lenQ, len_flat lenQ, get_flat0 lenQ, get_flat_part lenP, len_flat lenP, get_flat0 lenP, eqP, Nat.mul_one, ones_Q, take_Q, ones_H, take_H, len_flat lenH, Tryz.ntmps21]
  (try rw [hd])
  refine callO.pc h42 ?_
  simp (maxSteps := 2000000) -implicitDefEqProofs +contextual (disch := first | assumption | omega | decide +kernel) only [push_cast, ↓capI, br2_true, br2_false, frk_tt, frk_tf, frk_f, frkD_tt, frkD_tf, frkD_f, pk2_true, pk2_false, imp_true, seval, Nat.reduceLeDiff, Nat.reduceEqDiff, reduceCtorEq, ↓reduceIte, encE, agE, encT, encP, encL, encQ, encW, slI, slP, slL, cfg0, get_flat_part lenQ, get_flat_drop lenQ, len_flat lenQ, get_flat0 lenQ, get_flat_part lenP, len_flat lenP, get_flat0 lenP, eqP, Nat.mul_one, ones_Q, take_Q, ones_H, take_H, len_flat lenH, encTE]
  refine endK.ret ?_ (by first | rfl | simp [belT, belP, bel_slI, bel_slL, bel_slP, bel_ints, bel_Ps, bel_Ls, bel_encE, bel_agE, bel_Q, belAll_append, bel_H, bel_Qs, bel_slH, bel_Hs, bel_W]); simp [belT, belP, bel_slI, bel_slL, bel_slP, bel_ints, bel_Ps, bel_Ls, bel_encE, bel_agE, bel_Q, belAll_append, bel_H, bel_Qs, bel_slH, bel_Hs, bel_W, fzs_ok, imp, lenOK_iff, List.take_of_length_le, evRes, getT, getO, setO, fzs, fz, fzH, Nat.beq, retV, Res.then, ldT, ldR, mkV, getV, tt_26, tt_61, tt_22, tt_23, tt_24, tt_3, tt_4, tt_85, tt_38, tt_52, tt_54, tt_65, tt_34, tt_46, tt_30, encE, agE, encT, encP, encL, encQ, encW, slI, slP, slL, cfg0, get_flat_part lenQ, get_flat_drop lenQ, len_flat lenQ, get_flat0 lenQ, get_flat_part lenP, len_flat lenP, get_flat0 lenP, eqP, Nat.mul_one, ones_Q, take_Q, ones_H, take_H, len_flat lenH, Tryz.f21,  encTE]
theorem pc21_0 (w : Wd) (hf : w.fit) (e : Ev) (hk : e.k ≠ 1 ∧ e.k ≠ 2 ∧ e.k ≠ 3 ∧ e.k ≠ 4 ∧ e.k ≠ 6) : PC Tryz.prog 21 [.agg (encW w), agE e] (.agg (encW (nextW w e))) := by
  obtain ⟨k1, k2, k3, k4, k6⟩ := hk
  have hE : nextW w e = w := by rw [nextW, if_neg k1, if_neg k2, if_neg (by omega), if_neg k6]
  rw [hE]
  refine PC.walk tok mixed cfg0 Tryz.func21 rfl Tryz.call21 (by simp [belT, belP, bel_slI, bel_slL, bel_slP, bel_ints, bel_Ps, bel_Ls, bel_encE, bel_agE, bel_Q, belAll_append, bel_H, bel_Qs, bel_slH, bel_Hs, bel_W]) (by first | rfl | simp [belT, belP, bel_slI, bel_slL, bel_slP, bel_ints, bel_Ps, bel_Ls, bel_encE, bel_agE, bel_Q, belAll_append, bel_H, bel_Qs, bel_slH, bel_Hs, bel_W]) ?_; simp (maxSteps := 2000000) -implicitDefEqProofs +contextual (disch := first | assumption | omega | decide +kernel) only [push_cast, ↓capI, br2_true, br2_false, frk_tt, frk_tf, frk_f, frkD_tt, frkD_tf, frkD_f, pk2_true, pk2_false, imp_true, seval, Nat.reduceLeDiff, Nat.reduceEqDiff, reduceCtorEq, ↓reduceIte, encE, agE, encT, encP, encL, encQ, encW, slI, slP, slL, cfg0, get_flat_part lenQ, get_flat_drop lenQ, len_flat lenQ, get_flat0 lenQ, get_flat_part lenP, len_flat lenP, get_flat0 lenP, eqP, Nat.mul_one, ones_Q, take_Q, ones_H, take_H, len_flat lenH, Tryz.ntmps21]
  refine endK.ret ?_ (by first | rfl | simp [belT, belP, bel_slI, bel_slL, bel_slP, bel_ints, bel_Ps, bel_Ls, bel_encE, bel_agE, bel_Q, belAll_append, bel_H, bel_Qs, bel_slH, bel_Hs, bel_W]); simp [belT, belP, bel_slI, bel_slL, bel_slP, bel_ints, bel_Ps, bel_Ls, bel_encE, bel_agE, bel_Q, belAll_append, bel_H, bel_Qs, bel_slH, bel_Hs, bel_W, fzs_ok, imp, lenOK_iff, List.take_of_length_le, evRes, getT, getO, setO, fzs, fz, fzH, Nat.beq, retV, Res.then, ldT, ldR, mkV, getV, tt_26, tt_61, tt_22, tt_23, tt_24, tt_3, tt_4, tt_85, tt_38, tt_52, tt_54, tt_65, tt_34, tt_46, tt_30, encE, agE, encT, encP, encL, encQ, encW, slI, slP, slL, cfg0, get_flat_part lenQ, get_flat_drop lenQ, len_flat lenQ, get_flat0 lenQ, get_flat_part lenP, len_flat lenP, get_flat0 lenP, eqP, Nat.mul_one, ones_Q, take_Q, ones_H, take_H, len_flat lenH, Tryz.f21]
end Go.Proofs.YtafongdfnpnneaaGreatDoor.Top

/- Chapter 53: the reference's world: its packets, what it says of an event, what it makes of one. -/
set_option maxRecDepth 100000
set_option maxHeartbeats 4000000
set_option linter.all false
namespace Go.Proofs.YtafongdfnpnneaaGreatDoor.Top
open Go.Vm

theorem laxs_len : ∀ (l : List V), (laxs l).length = l.length
  | [] => rfl
  | x :: l => by rw [laxs, List.length_cons, List.length_cons, laxs_len l]
theorem Gn.laxO {n id ver : Nat} {tm : List V} {H : List Ob} {l : List V} (hg : getO H id = .cells ver l) : Gn n ⟨tm, H⟩ ⟨tm, setO H id (.cells ver (laxs l))⟩ := by
  refine Gn.of_ext fun O β a w hs => ?_
  have hH : H[id]? = some (.cells ver l) := getO_eq hg (by simp)
  exact ⟨β, ⟨hs.defers, hs.tm, hs.hp.retell hH (laxs_len l) (fun vs h => VRs.lax _ _ h)⟩, Ext.refl β w⟩
theorem ckR_sd {r : Rn} {e : Ev} (hc : ckR r e = 0) (h : e.k = 1) : 0 ≤ e.b ∧ e.b < r.t.hosts.length := by
  unfold ckR at hc
  split at hc
  · simp at hc
  split at hc
  · rename_i hk hp
    split at hc
    · rename_i he
      unfold endsR at he
      split at he
      · simp at he
      split at he <;> simp only [Bool.and_eq_true, decide_eq_true_eq] at he <;> omega
    · simp at hc
  · split at hc
    · simp at hc
    · omega
theorem pc21 (w : Wd) (hf : w.fit) (r : Rn) (hr : Rel r w) (e : Ev) (hc : ckR r e = 0) : PC Tryz.prog 21 [.agg (encW w), agE e] (.agg (encW (nextW w e))) := by
  by_cases k1 : e.k = 1
  · have := ckR_sd hc k1
    rw [← hr.t] at this
    exact pc21_1 w hf e e.b.toNat k1 (by omega) (by omega)
  by_cases k2 : e.k = 2
  · have := ckR_pend hc k2
    exact pc21_2 w hf e e.a.toNat k2 (by omega) (by rw [hr.n]; omega)
  by_cases k34 : e.k = 3 ∨ e.k = 4
  · have h1 := ckR_end hc k34
    have h2 := ckR_pe hc k34
    obtain ⟨p, hp, hn, _⟩ := hr.pend.resolve_left (by omega)
    exact pc21_3 w hf e p k34 (by omega) (by rw [hr.n]; exact hn)
  by_cases k6 : e.k = 6
  · exact pc21_6 w hf e k6
  · exact pc21_0 w hf e ⟨k1, k2, by omega, by omega, k6⟩
theorem rel_fit {r : Rn} {w : Wd} {t : Tp} {j : Nat} (hr : Rel r w) (hi : r.inv t j) (hf : t.fit) (hj : j ≤ 4000000) (hp : t.ports.length ≤ 4000000000) : w.fit := by
  have hfit := hi.fit hf hj
  refine ⟨by rw [hr.t]; exact hfit.t, by rw [hr.n]; exact hfit.n, fun p hp => ?_, by rw [hr.t, hi.ports]; exact hp⟩
  obtain ⟨i, hlt, rfl⟩ := List.getElem_of_mem hp
  have := (hr.q i (by rw [← hr.n]; exact hlt)).hops
  rw [getD_at hlt] at this
  rw [this]
  exact hfit.hops i
theorem pc7 (t : Tp) (hf : t.fit) (hp : t.ports.length ≤ 4000000000) (l : List Ev) (hl : l.length ≤ 4000000) : PC Tryz.prog 7 [.agg (encT t), slE l] (encII (checkEv t l)) := by
  have h19 := pc19 t hf
  by_cases hc : chk t = 0
  case neg =>
    rw [checkEv, if_neg hc]
    refine PC.walk tok mixed cfg0 Tryz.func7 rfl Tryz.call7 (by simp [bel_slE, bel_Es, belT, belP, bel_slI, bel_slL, bel_slP, bel_ints, bel_Ps, bel_Ls, bel_encE, bel_agE, bel_Q, belAll_append, bel_H, bel_Qs, bel_slH, bel_Hs, bel_W]) (by first | rfl | simp [bel_slE, bel_Es, belT, belP, bel_slI, bel_slL, bel_slP, bel_ints, bel_Ps, bel_Ls, bel_encE, bel_agE, bel_Q, belAll_append, bel_H, bel_Qs, bel_slH, bel_Hs, bel_W]) ?_; simp (maxSteps := 2000000) -implicitDefEqProofs +contextual (disch := first | assumption | omega | decide +kernel) only [push_cast, ↓capI, br2_true, br2_false, frk_tt, frk_tf, frk_f, frkD_tt, frkD_tf, frkD_f, pk2_true, pk2_false, imp_true, seval, Nat.reduceLeDiff, Nat.reduceEqDiff, reduceCtorEq, ↓reduceIte, get_flat0 lenE, get_flat_part lenE, len_flat lenE, encE, agE, encT, encP, encL, encQ, encW, slI, slP, slL, cfg0, get_flat_part lenQ, get_flat_drop lenQ, len_flat lenQ, get_flat0 lenQ, get_flat_part lenP, len_flat lenP, get_flat0 lenP, eqP, Nat.mul_one, ones_Q, take_Q, ones_H, take_H, len_flat lenH, Tryz.ntmps7]
    refine callO.pc h19 ?_
    simp (maxSteps := 2000000) -implicitDefEqProofs +contextual (disch := first | assumption | omega | decide +kernel) only [push_cast, ↓capI, br2_true, br2_false, frk_tt, frk_tf, frk_f, frkD_tt, frkD_tf, frkD_f, pk2_true, pk2_false, imp_true, seval, Nat.reduceLeDiff, Nat.reduceEqDiff, reduceCtorEq, ↓reduceIte, get_flat0 lenE, get_flat_part lenE, len_flat lenE, encE, agE, encT, encP, encL, encQ, encW, slI, slP, slL, cfg0, get_flat_part lenQ, get_flat_drop lenQ, len_flat lenQ, get_flat0 lenQ, get_flat_part lenP, len_flat lenP, get_flat0 lenP, eqP, Nat.mul_one, ones_Q, take_Q, ones_H, take_H, len_flat lenH, hc]
    refine endK.ret ?_ (by first | rfl | simp [bel_slE, bel_Es, belT, belP, bel_slI, bel_slL, bel_slP, bel_ints, bel_Ps, bel_Ls, bel_encE, bel_agE, bel_Q, belAll_append, bel_H, bel_Qs, bel_slH, bel_Hs, bel_W]); simp [evRes, getT, retV, Tryz.f7,  encII]
  rw [checkEv, if_pos hc]
  rw [hc] at h19
  refine PC.walk tok mixed cfg0 Tryz.func7 rfl Tryz.call7 (by simp [bel_slE, bel_Es, belT, belP, bel_slI, bel_slL, bel_slP, bel_ints, bel_Ps, bel_Ls, bel_encE, bel_agE, bel_Q, belAll_append, bel_H, bel_Qs, bel_slH, bel_Hs, bel_W]) (by first | rfl | simp [bel_slE, bel_Es, belT, belP, bel_slI, bel_slL, bel_slP, bel_ints, bel_Ps, bel_Ls, bel_encE, bel_agE, bel_Q, belAll_append, bel_H, bel_Qs, bel_slH, bel_Hs, bel_W]) ?_; simp (maxSteps := 2000000) -implicitDefEqProofs +contextual (disch := first | assumption | omega | decide +kernel) only [push_cast, ↓capI, br2_true, br2_false, frk_tt, frk_tf, frk_f, frkD_tt, frkD_tf, frkD_f, pk2_true, pk2_false, imp_true, seval, Nat.reduceLeDiff, Nat.reduceEqDiff, reduceCtorEq, ↓reduceIte, get_flat0 lenE, get_flat_part lenE, len_flat lenE, encE, agE, encT, encP, encL, encQ, encW, slI, slP, slL, cfg0, get_flat_part lenQ, get_flat_drop lenQ, len_flat lenQ, get_flat0 lenQ, get_flat_part lenP, len_flat lenP, get_flat0 lenP, eqP, Nat.mul_one, ones_Q, take_Q, ones_H, take_H, len_flat lenH, Tryz.ntmps7]
  refine callO.pc h19 ?_
  simp (maxSteps := 2000000) -implicitDefEqProofs +contextual (disch := first | assumption | omega | decide +kernel) only [push_cast, ↓capI, br2_true, br2_false, frk_tt, frk_tf, frk_f, frkD_tt, frkD_tf, frkD_f, pk2_true, pk2_false, imp_true, seval, Nat.reduceLeDiff, Nat.reduceEqDiff, reduceCtorEq, ↓reduceIte, get_flat0 lenE, get_flat_part lenE, len_flat lenE, encE, agE, encT, encP, encL, encQ, encW, slI, slP, slL, cfg0, get_flat_part lenQ, get_flat_drop lenQ, len_flat lenQ, get_flat0 lenQ, get_flat_part lenP, len_flat lenP, get_flat0 lenP, eqP, Nat.mul_one, ones_Q, take_Q, ones_H, take_H, len_flat lenH]
  refine T.lp tok mixed cfg0 (fun ((j, w, r) : Nat × Wd × Rn) => dd 1 (kp 1 (dd 5 (kp 1 (sv (.int .i64 j) (dd 29 (nl))))))) (fun H0 ((j, w, r) : Nat × Wd × Rn) => [.cells 0 (encT t), .cells 0 (encW w)]) (fun ((j, w, r) : Nat × Wd × Rn) => (Rel r w ∧ r.inv t j) ∧ j ≤ l.length ∧ chkG r (l.drop j) j = chkG (r0 t) l 0) (fun ((j, w, r) : Nat × Wd × Rn) => l.length - j) ((0, ⟨t, []⟩, r0 t)) ?_ ?_ ?_
  · exact ⟨⟨Rel0 t, inv0 t⟩, Nat.zero_le _, rfl⟩
  · refine (Gn.laxO (id := 1) rfl).trans ?_
    simp only [setO, laxs, Go.Vm.lax, lax_Is, lax_Ls, lax_Ps]
    exact Gn.canon (J := []) (by first | rfl | (simp [List.append_nil]; done) | (simp [List.append_nil]; rfl)) (by simp [wk, slP, slL, slI, encW, encT, putT, kp, dd, sv, nl]) (by simp [List.length_append]) (by simp [bel_slE, bel_Es, belT, belP, bel_slI, bel_slL, bel_slP, bel_ints, bel_Ps, bel_Ls, bel_encE, bel_agE, bel_Q, belAll_append, bel_H, bel_Qs, bel_slH, bel_Hs, bel_W, kp, dd, sv, nl]) (by simp [bel_slE, bel_Es, belT, belP, bel_slI, bel_slL, bel_slP, bel_ints, bel_Ps, bel_Ls, bel_encE, bel_agE, bel_Q, belAll_append, bel_H, bel_Qs, bel_slH, bel_Hs, bel_W])
  rintro ⟨j, w, r⟩ ⟨⟨hr, hi⟩, hj, hk⟩
  (try simp only at hr hi hj hk)
  by_cases hlt : j < l.length
  case neg =>
    have hje : j = l.length := by omega
    subst hje
    rw [List.drop_length, chkG] at hk
    rw [← hk]
    simp (maxSteps := 2000000) -implicitDefEqProofs +contextual (disch := first | assumption | omega | decide +kernel) only [push_cast, ↓capI, br2_true, br2_false, frk_tt, frk_tf, frk_f, frkD_tt, frkD_tf, frkD_f, pk2_true, pk2_false, imp_true, seval, Nat.reduceLeDiff, Nat.reduceEqDiff, reduceCtorEq, ↓reduceIte, get_flat0 lenE, get_flat_part lenE, len_flat lenE, encE, agE, encT, encP, encL, encQ, encW, slI, slP, slL, cfg0, get_flat_part lenQ, get_flat_drop lenQ, len_flat lenQ, get_flat0 lenQ, get_flat_part lenP, len_flat lenP, get_flat0 lenP, eqP, Nat.mul_one, ones_Q, take_Q, ones_H, take_H, len_flat lenH, slE]
    refine endK.ret ?_ (by first | rfl | simp [bel_slE, bel_Es, belT, belP, bel_slI, bel_slL, bel_slP, bel_ints, bel_Ps, bel_Ls, bel_encE, bel_agE, bel_Q, belAll_append, bel_H, bel_Qs, bel_slH, bel_Hs, bel_W]); simp [evRes, getT, retV, Tryz.f7,  encII]
  have hd : l.drop j = l[j] :: l.drop (j + 1) := List.drop_eq_getElem_cons hlt
  have hfit := rel_fit hr hi hf (by omega) hp
  have h20 := pc20 w hfit l[j]
  rw [rel_ck hr] at h20
  rw [hd, chkG] at hk
  simp (maxSteps := 2000000) -implicitDefEqProofs +contextual (disch := first | assumption | omega | decide +kernel) only [push_cast, ↓capI, br2_true, br2_false, frk_tt, frk_tf, frk_f, frkD_tt, frkD_tf, frkD_f, pk2_true, pk2_false, imp_true, seval, Nat.reduceLeDiff, Nat.reduceEqDiff, reduceCtorEq, ↓reduceIte, get_flat0 lenE, get_flat_part lenE, len_flat lenE, encE, agE, encT, encP, encL, encQ, encW, slI, slP, slL, cfg0, get_flat_part lenQ, get_flat_drop lenQ, len_flat lenQ, get_flat0 lenQ, get_flat_part lenP, len_flat lenP, get_flat0 lenP, eqP, Nat.mul_one, ones_Q, take_Q, ones_H, take_H, len_flat lenH, slE]
  refine callG.pc1 h20 ?_
  by_cases h0 : ckR r l[j] = 0
  · rw [if_pos h0] at hk
    have h21 := pc21 w hfit r hr l[j] h0
    have hr2 := rel_step hr h0
    generalize nextW w l[j] = w2 at h21 hr2
    simp (maxSteps := 2000000) -implicitDefEqProofs +contextual (disch := first | assumption | omega | decide +kernel) only [push_cast, ↓capI, br2_true, br2_false, frk_tt, frk_tf, frk_f, frkD_tt, frkD_tf, frkD_f, pk2_true, pk2_false, imp_true, seval, Nat.reduceLeDiff, Nat.reduceEqDiff, reduceCtorEq, ↓reduceIte, get_flat0 lenE, get_flat_part lenE, len_flat lenE, encE, agE, encT, encP, encL, encQ, encW, slI, slP, slL, cfg0, get_flat_part lenQ, get_flat_drop lenQ, len_flat lenQ, get_flat0 lenQ, get_flat_part lenP, len_flat lenP, get_flat0 lenP, eqP, Nat.mul_one, ones_Q, take_Q, ones_H, take_H, len_flat lenH, h0, slE]
    refine callG.pc1 h21 ?_
    simp (maxSteps := 2000000) -implicitDefEqProofs +contextual (disch := first | assumption | omega | decide +kernel) only [push_cast, ↓capI, br2_true, br2_false, frk_tt, frk_tf, frk_f, frkD_tt, frkD_tf, frkD_f, pk2_true, pk2_false, imp_true, seval, Nat.reduceLeDiff, Nat.reduceEqDiff, reduceCtorEq, ↓reduceIte, get_flat0 lenE, get_flat_part lenE, len_flat lenE, encE, agE, encT, encP, encL, encQ, encW, slI, slP, slL, cfg0, get_flat_part lenQ, get_flat_drop lenQ, len_flat lenQ, get_flat0 lenQ, get_flat_part lenP, len_flat lenP, get_flat0 lenP, eqP, Nat.mul_one, ones_Q, take_Q, ones_H, take_H, len_flat lenH, slE]
    refine ⟨(j + 1, w2, apR r l[j]), ⟨⟨hr2, inv_step hi h0⟩, by (try simp only); omega, hk⟩, by (try simp only); omega, ?_⟩; exact Gn.canon (by first | rfl | (simp [List.append_nil, slE]; rfl)) (by simp [wk, slP, slL, slI, encW, encT, slE]) (by simp [List.length_append]) (by simp [bel_slE, bel_Es, belT, belP, bel_slI, bel_slL, bel_slP, bel_ints, bel_Ps, bel_Ls, bel_encE, bel_agE, bel_Q, belAll_append, bel_H, bel_Qs, bel_slH, bel_Hs, bel_W]) (by simp [bel_slE, bel_Es, belT, belP, bel_slI, bel_slL, bel_slP, bel_ints, bel_Ps, bel_Ls, bel_encE, bel_agE, bel_Q, belAll_append, bel_H, bel_Qs, bel_slH, bel_Hs, bel_W])
  · rw [if_neg h0] at hk
    rw [← hk]
    simp (maxSteps := 2000000) -implicitDefEqProofs +contextual (disch := first | assumption | omega | decide +kernel) only [push_cast, ↓capI, br2_true, br2_false, frk_tt, frk_tf, frk_f, frkD_tt, frkD_tf, frkD_f, pk2_true, pk2_false, imp_true, seval, Nat.reduceLeDiff, Nat.reduceEqDiff, reduceCtorEq, ↓reduceIte, get_flat0 lenE, get_flat_part lenE, len_flat lenE, encE, agE, encT, encP, encL, encQ, encW, slI, slP, slL, cfg0, get_flat_part lenQ, get_flat_drop lenQ, len_flat lenQ, get_flat0 lenQ, get_flat_part lenP, len_flat lenP, get_flat0 lenP, eqP, Nat.mul_one, ones_Q, take_Q, ones_H, take_H, len_flat lenH, h0]
    refine endK.ret ?_ (by first | rfl | simp [bel_slE, bel_Es, belT, belP, bel_slI, bel_slL, bel_slP, bel_ints, bel_Ps, bel_Ls, bel_encE, bel_agE, bel_Q, belAll_append, bel_H, bel_Qs, bel_slH, bel_Hs, bel_W]); simp [evRes, getT, retV, Tryz.f7,  encII]
end Go.Proofs.YtafongdfnpnneaaGreatDoor.Top

/- Chapter 53: the reference's world: its packets, what it says of an event, what it makes of one. -/
set_option maxRecDepth 100000
set_option maxHeartbeats 4000000
set_option linter.all false
namespace Go.Proofs.YtafongdfnpnneaaGreatDoor.Top
open Go.Vm

theorem eqH {x y : Hp} : (x.1 == y.1 && (x.2.1 == y.2.1 && x.2.2 == y.2.2)) = decide (x = y) := by
  obtain ⟨a, b, c⟩ := x
  obtain ⟨a', b', c'⟩ := y
  simp only [Prod.mk.injEq, Bool.decide_and]
  rfl
theorem eqH2 {x y : Hp} : (x.1 == y.1 && decide (x.2 = y.2)) = decide (x = y) := by
  obtain ⟨a, b⟩ := x
  obtain ⟨a', b'⟩ := y
  simp only [Prod.mk.injEq, Bool.decide_and]
  rfl
theorem getH (x : Hp) : getV (encH x) 0 3 = encH x := rfl
theorem pc8 (a b : List Hp) (ha : a.length ≤ 4000000000) (hb : b.length ≤ 4000000000) : PC Tryz.prog 8 [slH a, slH b] (.bool (decide (a = b))) := by
  by_cases h1 : a.length = b.length
  case neg =>
    have h1i : ¬ (a.length : Int) = (b.length : Int) := by omega
    have hne : ¬ a = b := fun e => h1 (by rw [e])
    refine PC.walk tok mixed cfg0 Tryz.func8 rfl Tryz.call8 (by simp [bel_slE, bel_Es, belT, belP, bel_slI, bel_slL, bel_slP, bel_ints, bel_Ps, bel_Ls, bel_encE, bel_agE, bel_Q, belAll_append, bel_H, bel_Qs, bel_slH, bel_Hs, bel_W]) (by first | rfl | simp [bel_slE, bel_Es, belT, belP, bel_slI, bel_slL, bel_slP, bel_ints, bel_Ps, bel_Ls, bel_encE, bel_agE, bel_Q, belAll_append, bel_H, bel_Qs, bel_slH, bel_Hs, bel_W]) ?_; simp (maxSteps := 2000000) -implicitDefEqProofs +contextual (disch := first | assumption | omega | decide +kernel) only [push_cast, ↓capI, br2_true, br2_false, frk_tt, frk_tf, frk_f, frkD_tt, frkD_tf, frkD_f, pk2_true, pk2_false, imp_true, seval, Nat.reduceLeDiff, Nat.reduceEqDiff, reduceCtorEq, ↓reduceIte, get_flat0 lenE, get_flat_part lenE, len_flat lenE, get_flat0 lenH, getH, encE, agE, encT, encP, encL, encQ, encW, slI, slP, slL, cfg0, get_flat_part lenQ, get_flat_drop lenQ, len_flat lenQ, get_flat0 lenQ, get_flat_part lenP, len_flat lenP, get_flat0 lenP, eqP, Nat.mul_one, ones_Q, take_Q, ones_H, take_H, len_flat lenH, Tryz.ntmps8]
    simp (maxSteps := 2000000) -implicitDefEqProofs +contextual (disch := first | assumption | omega | decide +kernel) only [push_cast, ↓capI, br2_true, br2_false, frk_tt, frk_tf, frk_f, frkD_tt, frkD_tf, frkD_f, pk2_true, pk2_false, imp_true, seval, Nat.reduceLeDiff, Nat.reduceEqDiff, reduceCtorEq, ↓reduceIte, get_flat0 lenE, get_flat_part lenE, len_flat lenE, get_flat0 lenH, getH, encE, agE, encT, encP, encL, encQ, encW, slI, slP, slL, cfg0, get_flat_part lenQ, get_flat_drop lenQ, len_flat lenQ, get_flat0 lenQ, get_flat_part lenP, len_flat lenP, get_flat0 lenP, eqP, Nat.mul_one, ones_Q, take_Q, ones_H, take_H, len_flat lenH, slH]
    refine endK.ret ?_ (by first | rfl | simp [bel_slE, bel_Es, belT, belP, bel_slI, bel_slL, bel_slP, bel_ints, bel_Ps, bel_Ls, bel_encE, bel_agE, bel_Q, belAll_append, bel_H, bel_Qs, bel_slH, bel_Hs, bel_W]); simp [evRes, getT, retV, Tryz.f8,  hne]
  refine PC.walk tok mixed cfg0 Tryz.func8 rfl Tryz.call8 (by simp [bel_slE, bel_Es, belT, belP, bel_slI, bel_slL, bel_slP, bel_ints, bel_Ps, bel_Ls, bel_encE, bel_agE, bel_Q, belAll_append, bel_H, bel_Qs, bel_slH, bel_Hs, bel_W]) (by first | rfl | simp [bel_slE, bel_Es, belT, belP, bel_slI, bel_slL, bel_slP, bel_ints, bel_Ps, bel_Ls, bel_encE, bel_agE, bel_Q, belAll_append, bel_H, bel_Qs, bel_slH, bel_Hs, bel_W]) ?_; simp (maxSteps := 2000000) -implicitDefEqProofs +contextual (disch := first | assumption | omega | decide +kernel) only [push_cast, ↓capI, br2_true, br2_false, frk_tt, frk_tf, frk_f, frkD_tt, frkD_tf, frkD_f, pk2_true, pk2_false, imp_true, seval, Nat.reduceLeDiff, Nat.reduceEqDiff, reduceCtorEq, ↓reduceIte, get_flat0 lenE, get_flat_part lenE, len_flat lenE, get_flat0 lenH, getH, encE, agE, encT, encP, encL, encQ, encW, slI, slP, slL, cfg0, get_flat_part lenQ, get_flat_drop lenQ, len_flat lenQ, get_flat0 lenQ, get_flat_part lenP, len_flat lenP, get_flat0 lenP, eqP, Nat.mul_one, ones_Q, take_Q, ones_H, take_H, len_flat lenH, Tryz.ntmps8]
  simp (maxSteps := 2000000) -implicitDefEqProofs +contextual (disch := first | assumption | omega | decide +kernel) only [push_cast, ↓capI, br2_true, br2_false, frk_tt, frk_tf, frk_f, frkD_tt, frkD_tf, frkD_f, pk2_true, pk2_false, imp_true, seval, Nat.reduceLeDiff, Nat.reduceEqDiff, reduceCtorEq, ↓reduceIte, get_flat0 lenE, get_flat_part lenE, len_flat lenE, get_flat0 lenH, getH, encE, agE, encT, encP, encL, encQ, encW, slI, slP, slL, cfg0, get_flat_part lenQ, get_flat_drop lenQ, len_flat lenQ, get_flat0 lenQ, get_flat_part lenP, len_flat lenP, get_flat0 lenP, eqP, Nat.mul_one, ones_Q, take_Q, ones_H, take_H, len_flat lenH, slH, h1]
  refine T.lp tok mixed cfg0 (fun (j : Nat) => kp 2 (dd 3 (sv (.int .i64 j) (dd 20 (nl))))) (fun H0 (j : Nat) => H0) (fun (j : Nat) => j ≤ a.length ∧ decide (a.drop j = b.drop j) = decide (a = b)) (fun (j : Nat) => a.length - j) (0) ?_ ?_ ?_
  · exact ⟨Nat.zero_le _, rfl⟩
  · exact Gn.canon (J := _) (by first | rfl | (simp [List.append_nil]; done) | (simp [List.append_nil]; rfl)) (by simp [wk, slP, slL, slI, encW, encT, putT, kp, dd, sv, nl]) (by simp [List.length_append]) (by simp [bel_slE, bel_Es, belT, belP, bel_slI, bel_slL, bel_slP, bel_ints, bel_Ps, bel_Ls, bel_encE, bel_agE, bel_Q, belAll_append, bel_H, bel_Qs, bel_slH, bel_Hs, bel_W, kp, dd, sv, nl]) (by simp [bel_slE, bel_Es, belT, belP, bel_slI, bel_slL, bel_slP, bel_ints, bel_Ps, bel_Ls, bel_encE, bel_agE, bel_Q, belAll_append, bel_H, bel_Qs, bel_slH, bel_Hs, bel_W])
  intro j ⟨hj, hc⟩
  by_cases hlt : j < a.length
  · have hlt2 : j < b.length := by omega
    obtain ⟨c1, c2⟩ := deq_cons hlt hlt2 hc
    simp (maxSteps := 2000000) -implicitDefEqProofs +contextual (disch := first | assumption | omega | decide +kernel) only [push_cast, ↓capI, br2_true, br2_false, frk_tt, frk_tf, frk_f, frkD_tt, frkD_tf, frkD_f, pk2_true, pk2_false, imp_true, seval, Nat.reduceLeDiff, Nat.reduceEqDiff, reduceCtorEq, ↓reduceIte, get_flat0 lenE, get_flat_part lenE, len_flat lenE, get_flat0 lenH, getH, encE, agE, encT, encP, encL, encQ, encW, slI, slP, slL, cfg0, get_flat_part lenQ, get_flat_drop lenQ, len_flat lenQ, get_flat0 lenQ, get_flat_part lenP, len_flat lenP, get_flat0 lenP, eqP, Nat.mul_one, ones_Q, take_Q, ones_H, take_H, len_flat lenH, encH, eqH2]
    refine ⟨fun he => ?_, fun he => ?_⟩
    · have := of_decide_eq_false (c1 he)
      refine endK.ret ?_ (by first | rfl | simp [bel_slE, bel_Es, belT, belP, bel_slI, bel_slL, bel_slP, bel_ints, bel_Ps, bel_Ls, bel_encE, bel_agE, bel_Q, belAll_append, bel_H, bel_Qs, bel_slH, bel_Hs, bel_W]); simp [evRes, getT, retV, Tryz.f8,  this]
    · refine ⟨j + 1, ⟨by omega, c2 he⟩, by (try simp only); omega, ?_⟩; exact Gn.canon (by first | rfl | (simp [List.append_nil]; rfl)) (by simp [wk, slP, slL, slI, encW, encT]) (by simp [List.length_append]) (by simp [bel_slE, bel_Es, belT, belP, bel_slI, bel_slL, bel_slP, bel_ints, bel_Ps, bel_Ls, bel_encE, bel_agE, bel_Q, belAll_append, bel_H, bel_Qs, bel_slH, bel_Hs, bel_W]) (by simp [bel_slE, bel_Es, belT, belP, bel_slI, bel_slL, bel_slP, bel_ints, bel_Ps, bel_Ls, bel_encE, bel_agE, bel_Q, belAll_append, bel_H, bel_Qs, bel_slH, bel_Hs, bel_W])
  · have hr := deq_end (by omega) (by omega) hc
    have he : a = b := of_decide_eq_true hr
    simp (maxSteps := 2000000) -implicitDefEqProofs +contextual (disch := first | assumption | omega | decide +kernel) only [push_cast, ↓capI, br2_true, br2_false, frk_tt, frk_tf, frk_f, frkD_tt, frkD_tf, frkD_f, pk2_true, pk2_false, imp_true, seval, Nat.reduceLeDiff, Nat.reduceEqDiff, reduceCtorEq, ↓reduceIte, get_flat0 lenE, get_flat_part lenE, len_flat lenE, get_flat0 lenH, getH, encE, agE, encT, encP, encL, encQ, encW, slI, slP, slL, cfg0, get_flat_part lenQ, get_flat_drop lenQ, len_flat lenQ, get_flat0 lenQ, get_flat_part lenP, len_flat lenP, get_flat0 lenP, eqP, Nat.mul_one, ones_Q, take_Q, ones_H, take_H, len_flat lenH]
    refine endK.ret ?_ (by first | rfl | simp [bel_slE, bel_Es, belT, belP, bel_slI, bel_slL, bel_slP, bel_ints, bel_Ps, bel_Ls, bel_encE, bel_agE, bel_Q, belAll_append, bel_H, bel_Qs, bel_slH, bel_Hs, bel_W]); simp [evRes, getT, retV, Tryz.f8,  he]
theorem pc10 (t : Tp) (hf : t.fit) (hp : t.ports.length ≤ 4000000000) (l : List Ev) (hl : l.length ≤ 4000000) (id : Int) : PC Tryz.prog 10 [.agg (encT t), slE l, .int .i64 id] (slH (hopsEv t l id)) := by
  have h19 := pc19 t hf
  by_cases hc : chk t = 0
  case neg =>
    rw [hopsEv, if_neg hc]
    have key : PC Tryz.prog 10 [.agg (encT t), slE l, .int .i64 id] (.sl true [] 0) := by
      refine PC.walk tok mixed cfg0 Tryz.func10 rfl Tryz.call10 (by simp [bel_slE, bel_Es, belT, belP, bel_slI, bel_slL, bel_slP, bel_ints, bel_Ps, bel_Ls, bel_encE, bel_agE, bel_Q, belAll_append, bel_H, bel_Qs, bel_slH, bel_Hs, bel_W]) (by first | rfl | simp [bel_slE, bel_Es, belT, belP, bel_slI, bel_slL, bel_slP, bel_ints, bel_Ps, bel_Ls, bel_encE, bel_agE, bel_Q, belAll_append, bel_H, bel_Qs, bel_slH, bel_Hs, bel_W]) ?_; simp (maxSteps := 2000000) -implicitDefEqProofs +contextual (disch := first | assumption | omega | decide +kernel) only [push_cast, ↓capI, br2_true, br2_false, frk_tt, frk_tf, frk_f, frkD_tt, frkD_tf, frkD_f, pk2_true, pk2_false, imp_true, seval, Nat.reduceLeDiff, Nat.reduceEqDiff, reduceCtorEq, ↓reduceIte, get_flat0 lenE, get_flat_part lenE, len_flat lenE, get_flat0 lenH, getH, encE, agE, encT, encP, encL, encQ, encW, slI, slP, slL, cfg0, get_flat_part lenQ, get_flat_drop lenQ, len_flat lenQ, get_flat0 lenQ, get_flat_part lenP, len_flat lenP, get_flat0 lenP, eqP, Nat.mul_one, ones_Q, take_Q, ones_H, take_H, len_flat lenH, Tryz.ntmps10]
      refine callO.pc h19 ?_
      simp (maxSteps := 2000000) -implicitDefEqProofs +contextual (disch := first | assumption | omega | decide +kernel) only [push_cast, ↓capI, br2_true, br2_false, frk_tt, frk_tf, frk_f, frkD_tt, frkD_tf, frkD_f, pk2_true, pk2_false, imp_true, seval, Nat.reduceLeDiff, Nat.reduceEqDiff, reduceCtorEq, ↓reduceIte, get_flat0 lenE, get_flat_part lenE, len_flat lenE, get_flat0 lenH, getH, encE, agE, encT, encP, encL, encQ, encW, slI, slP, slL, cfg0, get_flat_part lenQ, get_flat_drop lenQ, len_flat lenQ, get_flat0 lenQ, get_flat_part lenP, len_flat lenP, get_flat0 lenP, eqP, Nat.mul_one, ones_Q, take_Q, ones_H, take_H, len_flat lenH, hc]
      refine endK.ret ?_ (by first | rfl | simp [bel_slE, bel_Es, belT, belP, bel_slI, bel_slL, bel_slP, bel_ints, bel_Ps, bel_Ls, bel_encE, bel_agE, bel_Q, belAll_append, bel_H, bel_Qs, bel_slH, bel_Hs, bel_W]); simp [evRes, getT, retV, Tryz.f10]
    exact key.laxr
  rw [hopsEv, if_pos hc]
  rw [hc] at h19
  suffices key : PC Tryz.prog 10 [.agg (encT t), slE l, .int .i64 id] (if id < 0 ∨ ((runG (r0 t) l).n : Int) ≤ id then .sl true [] 0 else slH ((runG (r0 t) l).pk id.toNat).hops) by
    split at key
    · rename_i h
      rw [if_pos h]
      exact key.laxr
    · rename_i h
      rw [if_neg h]
      exact key
  refine PC.walk tok mixed cfg0 Tryz.func10 rfl Tryz.call10 (by simp [bel_slE, bel_Es, belT, belP, bel_slI, bel_slL, bel_slP, bel_ints, bel_Ps, bel_Ls, bel_encE, bel_agE, bel_Q, belAll_append, bel_H, bel_Qs, bel_slH, bel_Hs, bel_W]) (by split; rfl; exact bel_slH _) ?_; simp (maxSteps := 2000000) -implicitDefEqProofs +contextual (disch := first | assumption | omega | decide +kernel) only [push_cast, ↓capI, br2_true, br2_false, frk_tt, frk_tf, frk_f, frkD_tt, frkD_tf, frkD_f, pk2_true, pk2_false, imp_true, seval, Nat.reduceLeDiff, Nat.reduceEqDiff, reduceCtorEq, ↓reduceIte, get_flat0 lenE, get_flat_part lenE, len_flat lenE, get_flat0 lenH, getH, encE, agE, encT, encP, encL, encQ, encW, slI, slP, slL, cfg0, get_flat_part lenQ, get_flat_drop lenQ, len_flat lenQ, get_flat0 lenQ, get_flat_part lenP, len_flat lenP, get_flat0 lenP, eqP, Nat.mul_one, ones_Q, take_Q, ones_H, take_H, len_flat lenH, Tryz.ntmps10]
  refine callO.pc h19 ?_
  simp (maxSteps := 2000000) -implicitDefEqProofs +contextual (disch := first | assumption | omega | decide +kernel) only [push_cast, ↓capI, br2_true, br2_false, frk_tt, frk_tf, frk_f, frkD_tt, frkD_tf, frkD_f, pk2_true, pk2_false, imp_true, seval, Nat.reduceLeDiff, Nat.reduceEqDiff, reduceCtorEq, ↓reduceIte, get_flat0 lenE, get_flat_part lenE, len_flat lenE, get_flat0 lenH, getH, encE, agE, encT, encP, encL, encQ, encW, slI, slP, slL, cfg0, get_flat_part lenQ, get_flat_drop lenQ, len_flat lenQ, get_flat0 lenQ, get_flat_part lenP, len_flat lenP, get_flat0 lenP, eqP, Nat.mul_one, ones_Q, take_Q, ones_H, take_H, len_flat lenH]
  refine T.lp tok mixed cfg0 (fun ((j, w, r) : Nat × Wd × Rn) => dd 1 (kp 2 (dd 4 (kp 1 (sv (.int .i64 j) (dd 41 (nl))))))) (fun H0 ((j, w, r) : Nat × Wd × Rn) => [.cells 0 (encT t), .cells 0 (encW w)]) (fun ((j, w, r) : Nat × Wd × Rn) => (Rel r w ∧ r.inv t j) ∧ j ≤ l.length ∧ runG r (l.drop j) = runG (r0 t) l) (fun ((j, w, r) : Nat × Wd × Rn) => l.length - j) ((0, ⟨t, []⟩, r0 t)) ?_ ?_ ?_
  · exact ⟨⟨Rel0 t, inv0 t⟩, Nat.zero_le _, rfl⟩
  · refine (Gn.laxO (id := 1) rfl).trans ?_
    simp only [setO, laxs, Go.Vm.lax, lax_Is, lax_Ls, lax_Ps]
    exact Gn.canon (J := []) (by first | rfl | (simp [List.append_nil]; done) | (simp [List.append_nil]; rfl)) (by simp [wk, slP, slL, slI, encW, encT, putT, kp, dd, sv, nl]) (by simp [List.length_append]) (by simp [bel_slE, bel_Es, belT, belP, bel_slI, bel_slL, bel_slP, bel_ints, bel_Ps, bel_Ls, bel_encE, bel_agE, bel_Q, belAll_append, bel_H, bel_Qs, bel_slH, bel_Hs, bel_W, kp, dd, sv, nl]) (by simp [bel_slE, bel_Es, belT, belP, bel_slI, bel_slL, bel_slP, bel_ints, bel_Ps, bel_Ls, bel_encE, bel_agE, bel_Q, belAll_append, bel_H, bel_Qs, bel_slH, bel_Hs, bel_W])
  rintro ⟨j, w, r⟩ ⟨⟨hr, hi⟩, hj, hk⟩
  (try simp only at hr hi hj hk)
  have hrn := hr.n
  have hfit0 := hi.fit hf (by omega)
  have hfn := hfit0.n
  by_cases hlt : j < l.length
  case neg =>
    have hje : j = l.length := by omega
    subst hje
    rw [List.drop_length, runG] at hk
    rw [← hk]
    by_cases hid : id < 0
    · simp (maxSteps := 2000000) -implicitDefEqProofs +contextual (disch := first | assumption | omega | decide +kernel) only [push_cast, ↓capI, br2_true, br2_false, frk_tt, frk_tf, frk_f, frkD_tt, frkD_tf, frkD_f, pk2_true, pk2_false, imp_true, seval, Nat.reduceLeDiff, Nat.reduceEqDiff, reduceCtorEq, ↓reduceIte, get_flat0 lenE, get_flat_part lenE, len_flat lenE, get_flat0 lenH, getH, encE, agE, encT, encP, encL, encQ, encW, slI, slP, slL, cfg0, get_flat_part lenQ, get_flat_drop lenQ, len_flat lenQ, get_flat0 lenQ, get_flat_part lenP, len_flat lenP, get_flat0 lenP, eqP, Nat.mul_one, ones_Q, take_Q, ones_H, take_H, len_flat lenH, slE, hid]
      refine endK.ret ?_ (by first | rfl | simp [bel_slE, bel_Es, belT, belP, bel_slI, bel_slL, bel_slP, bel_ints, bel_Ps, bel_Ls, bel_encE, bel_agE, bel_Q, belAll_append, bel_H, bel_Qs, bel_slH, bel_Hs, bel_W]); simp [evRes, getT, retV, Tryz.f10,  hid]
    by_cases hid2 : (r.n : Int) ≤ id
    · have hid3 : (w.ps.length : Int) ≤ id := by omega
      simp (maxSteps := 2000000) -implicitDefEqProofs +contextual (disch := first | assumption | omega | decide +kernel) only [push_cast, ↓capI, br2_true, br2_false, frk_tt, frk_tf, frk_f, frkD_tt, frkD_tf, frkD_f, pk2_true, pk2_false, imp_true, seval, Nat.reduceLeDiff, Nat.reduceEqDiff, reduceCtorEq, ↓reduceIte, get_flat0 lenE, get_flat_part lenE, len_flat lenE, get_flat0 lenH, getH, encE, agE, encT, encP, encL, encQ, encW, slI, slP, slL, cfg0, get_flat_part lenQ, get_flat_drop lenQ, len_flat lenQ, get_flat0 lenQ, get_flat_part lenP, len_flat lenP, get_flat0 lenP, eqP, Nat.mul_one, ones_Q, take_Q, ones_H, take_H, len_flat lenH, slE, hid, hid3]
      refine endK.ret ?_ (by first | rfl | simp [bel_slE, bel_Es, belT, belP, bel_slI, bel_slL, bel_slP, bel_ints, bel_Ps, bel_Ls, bel_encE, bel_agE, bel_Q, belAll_append, bel_H, bel_Qs, bel_slH, bel_Hs, bel_W]); simp [evRes, getT, retV, Tryz.f10,  hid, hid2]
    obtain ⟨p, hp⟩ : ∃ p : Nat, id = p := ⟨id.toNat, by omega⟩
    subst hp
    have hpn : p < w.ps.length := by omega
    have hid3 : ¬ (w.ps.length : Int) ≤ (p : Int) := by omega
    have hh := (hr.q p (by omega)).hops
    rw [getD_at hpn] at hh
    rw [if_neg (by omega), Int.toNat_natCast, ← hh]
    simp (maxSteps := 2000000) -implicitDefEqProofs +contextual (disch := first | assumption | omega | decide +kernel) only [push_cast, ↓capI, br2_true, br2_false, frk_tt, frk_tf, frk_f, frkD_tt, frkD_tf, frkD_f, pk2_true, pk2_false, imp_true, seval, Nat.reduceLeDiff, Nat.reduceEqDiff, reduceCtorEq, ↓reduceIte, get_flat0 lenE, get_flat_part lenE, len_flat lenE, get_flat0 lenH, getH, encE, agE, encT, encP, encL, encQ, encW, slI, slP, slL, cfg0, get_flat_part lenQ, get_flat_drop lenQ, len_flat lenQ, get_flat0 lenQ, get_flat_part lenP, len_flat lenP, get_flat0 lenP, eqP, Nat.mul_one, ones_Q, take_Q, ones_H, take_H, len_flat lenH, slE, hid, hid3]
    refine endK.ret ?_ (by first | rfl | simp [bel_slE, bel_Es, belT, belP, bel_slI, bel_slL, bel_slP, bel_ints, bel_Ps, bel_Ls, bel_encE, bel_agE, bel_Q, belAll_append, bel_H, bel_Qs, bel_slH, bel_Hs, bel_W]); simp [evRes, getT, retV, Tryz.f10,  slH, V.st]
  have hd : l.drop j = l[j] :: l.drop (j + 1) := List.drop_eq_getElem_cons hlt
  have hfit := rel_fit hr hi hf (by omega) hp
  have h20 := pc20 w hfit l[j]
  rw [rel_ck hr] at h20
  rw [hd, runG] at hk
  simp (maxSteps := 2000000) -implicitDefEqProofs +contextual (disch := first | assumption | omega | decide +kernel) only [push_cast, ↓capI, br2_true, br2_false, frk_tt, frk_tf, frk_f, frkD_tt, frkD_tf, frkD_f, pk2_true, pk2_false, imp_true, seval, Nat.reduceLeDiff, Nat.reduceEqDiff, reduceCtorEq, ↓reduceIte, get_flat0 lenE, get_flat_part lenE, len_flat lenE, get_flat0 lenH, getH, encE, agE, encT, encP, encL, encQ, encW, slI, slP, slL, cfg0, get_flat_part lenQ, get_flat_drop lenQ, len_flat lenQ, get_flat0 lenQ, get_flat_part lenP, len_flat lenP, get_flat0 lenP, eqP, Nat.mul_one, ones_Q, take_Q, ones_H, take_H, len_flat lenH, slE]
  refine callG.pc1 h20 ?_
  by_cases h0 : ckR r l[j] = 0
  · rw [if_pos h0] at hk
    have h21 := pc21 w hfit r hr l[j] h0
    have hr2 := rel_step hr h0
    generalize nextW w l[j] = w2 at h21 hr2
    simp (maxSteps := 2000000) -implicitDefEqProofs +contextual (disch := first | assumption | omega | decide +kernel) only [push_cast, ↓capI, br2_true, br2_false, frk_tt, frk_tf, frk_f, frkD_tt, frkD_tf, frkD_f, pk2_true, pk2_false, imp_true, seval, Nat.reduceLeDiff, Nat.reduceEqDiff, reduceCtorEq, ↓reduceIte, get_flat0 lenE, get_flat_part lenE, len_flat lenE, get_flat0 lenH, getH, encE, agE, encT, encP, encL, encQ, encW, slI, slP, slL, cfg0, get_flat_part lenQ, get_flat_drop lenQ, len_flat lenQ, get_flat0 lenQ, get_flat_part lenP, len_flat lenP, get_flat0 lenP, eqP, Nat.mul_one, ones_Q, take_Q, ones_H, take_H, len_flat lenH, h0, slE]
    refine callG.pc1 h21 ?_
    simp (maxSteps := 2000000) -implicitDefEqProofs +contextual (disch := first | assumption | omega | decide +kernel) only [push_cast, ↓capI, br2_true, br2_false, frk_tt, frk_tf, frk_f, frkD_tt, frkD_tf, frkD_f, pk2_true, pk2_false, imp_true, seval, Nat.reduceLeDiff, Nat.reduceEqDiff, reduceCtorEq, ↓reduceIte, get_flat0 lenE, get_flat_part lenE, len_flat lenE, get_flat0 lenH, getH, encE, agE, encT, encP, encL, encQ, encW, slI, slP, slL, cfg0, get_flat_part lenQ, get_flat_drop lenQ, len_flat lenQ, get_flat0 lenQ, get_flat_part lenP, len_flat lenP, get_flat0 lenP, eqP, Nat.mul_one, ones_Q, take_Q, ones_H, take_H, len_flat lenH, slE]
    refine ⟨(j + 1, w2, apR r l[j]), ⟨⟨hr2, inv_step hi h0⟩, by (try simp only); omega, hk⟩, by (try simp only); omega, ?_⟩; exact Gn.canon (by first | rfl | (simp [List.append_nil, slE]; rfl)) (by simp [wk, slP, slL, slI, encW, encT, slE]) (by simp [List.length_append]) (by simp [bel_slE, bel_Es, belT, belP, bel_slI, bel_slL, bel_slP, bel_ints, bel_Ps, bel_Ls, bel_encE, bel_agE, bel_Q, belAll_append, bel_H, bel_Qs, bel_slH, bel_Hs, bel_W]) (by simp [bel_slE, bel_Es, belT, belP, bel_slI, bel_slL, bel_slP, bel_ints, bel_Ps, bel_Ls, bel_encE, bel_agE, bel_Q, belAll_append, bel_H, bel_Qs, bel_slH, bel_Hs, bel_W])
  · rw [if_neg h0] at hk
    rw [← hk]
    by_cases hid : id < 0
    · simp (maxSteps := 2000000) -implicitDefEqProofs +contextual (disch := first | assumption | omega | decide +kernel) only [push_cast, ↓capI, br2_true, br2_false, frk_tt, frk_tf, frk_f, frkD_tt, frkD_tf, frkD_f, pk2_true, pk2_false, imp_true, seval, Nat.reduceLeDiff, Nat.reduceEqDiff, reduceCtorEq, ↓reduceIte, get_flat0 lenE, get_flat_part lenE, len_flat lenE, get_flat0 lenH, getH, encE, agE, encT, encP, encL, encQ, encW, slI, slP, slL, cfg0, get_flat_part lenQ, get_flat_drop lenQ, len_flat lenQ, get_flat0 lenQ, get_flat_part lenP, len_flat lenP, get_flat0 lenP, eqP, Nat.mul_one, ones_Q, take_Q, ones_H, take_H, len_flat lenH, h0, hid]
      refine endK.ret ?_ (by first | rfl | simp [bel_slE, bel_Es, belT, belP, bel_slI, bel_slL, bel_slP, bel_ints, bel_Ps, bel_Ls, bel_encE, bel_agE, bel_Q, belAll_append, bel_H, bel_Qs, bel_slH, bel_Hs, bel_W]); simp [evRes, getT, retV, Tryz.f10,  hid]
    by_cases hid2 : (r.n : Int) ≤ id
    · have hid3 : (w.ps.length : Int) ≤ id := by omega
      simp (maxSteps := 2000000) -implicitDefEqProofs +contextual (disch := first | assumption | omega | decide +kernel) only [push_cast, ↓capI, br2_true, br2_false, frk_tt, frk_tf, frk_f, frkD_tt, frkD_tf, frkD_f, pk2_true, pk2_false, imp_true, seval, Nat.reduceLeDiff, Nat.reduceEqDiff, reduceCtorEq, ↓reduceIte, get_flat0 lenE, get_flat_part lenE, len_flat lenE, get_flat0 lenH, getH, encE, agE, encT, encP, encL, encQ, encW, slI, slP, slL, cfg0, get_flat_part lenQ, get_flat_drop lenQ, len_flat lenQ, get_flat0 lenQ, get_flat_part lenP, len_flat lenP, get_flat0 lenP, eqP, Nat.mul_one, ones_Q, take_Q, ones_H, take_H, len_flat lenH, h0, hid, hid3]
      refine endK.ret ?_ (by first | rfl | simp [bel_slE, bel_Es, belT, belP, bel_slI, bel_slL, bel_slP, bel_ints, bel_Ps, bel_Ls, bel_encE, bel_agE, bel_Q, belAll_append, bel_H, bel_Qs, bel_slH, bel_Hs, bel_W]); simp [evRes, getT, retV, Tryz.f10,  hid, hid2]
    obtain ⟨p, hp⟩ : ∃ p : Nat, id = p := ⟨id.toNat, by omega⟩
    subst hp
    have hpn : p < w.ps.length := by omega
    have hid3 : ¬ (w.ps.length : Int) ≤ (p : Int) := by omega
    have hh := (hr.q p (by omega)).hops
    rw [getD_at hpn] at hh
    rw [if_neg (by omega), Int.toNat_natCast, ← hh]
    simp (maxSteps := 2000000) -implicitDefEqProofs +contextual (disch := first | assumption | omega | decide +kernel) only [push_cast, ↓capI, br2_true, br2_false, frk_tt, frk_tf, frk_f, frkD_tt, frkD_tf, frkD_f, pk2_true, pk2_false, imp_true, seval, Nat.reduceLeDiff, Nat.reduceEqDiff, reduceCtorEq, ↓reduceIte, get_flat0 lenE, get_flat_part lenE, len_flat lenE, get_flat0 lenH, getH, encE, agE, encT, encP, encL, encQ, encW, slI, slP, slL, cfg0, get_flat_part lenQ, get_flat_drop lenQ, len_flat lenQ, get_flat0 lenQ, get_flat_part lenP, len_flat lenP, get_flat0 lenP, eqP, Nat.mul_one, ones_Q, take_Q, ones_H, take_H, len_flat lenH, h0, hid, hid3]
    refine endK.ret ?_ (by first | rfl | simp [bel_slE, bel_Es, belT, belP, bel_slI, bel_slL, bel_slP, bel_ints, bel_Ps, bel_Ls, bel_encE, bel_agE, bel_Q, belAll_append, bel_H, bel_Qs, bel_slH, bel_Hs, bel_W]); simp [evRes, getT, retV, Tryz.f10,  slH, V.st]
end Go.Proofs.YtafongdfnpnneaaGreatDoor.Top

