/-
  Joined by a program from the texts Lnk L6.
-/
import Derived.Test.YtafongdfnpnneaaDoorMe
import Derived.Test.YtafongdfnpnneaaDoorMf
/- Chapter 53: hops follow links, in plain terms. -/
set_option maxRecDepth 100000
set_option maxHeartbeats 4000000
set_option linter.all false
namespace Go.Proofs.YtafongdfnpnneaaDoor.Top
open Go.Vm

/-- a link leads from one port to the other -/
def hstep (t : Tp) (o i : Int × Int) : Prop := ∃ k : Nat, ∃ h : k < t.links.length, linkAt t o = ((k : Int), true) ∧ ((t.links[k].a = o ∧ t.links[k].b = i) ∨ (t.links[k].b = o ∧ t.links[k].a = i))
/-- where a packet may come in that has these hops -/
def nxt (t : Tp) (hs : List Hp) (p : Int × Int) : Prop := match hs.getLast? with
  | none => (hostAt t p).2 = true
  | some h => hstep t (h.1, h.2.2) p
def chain (t : Tp) : List Hp → Prop
  | hs => ∀ (i : Nat) (h : Hp), hs[i]? = some h → nxt t (hs.take i) (h.1, h.2.1)
theorem chain_nil {t : Tp} : chain t [] := fun i h hh => by simp at hh
theorem chain_snoc {t : Tp} {hs : List Hp} {h : Hp} (hc : chain t hs) (hn : nxt t hs (h.1, h.2.1)) : chain t (hs ++ [h]) := by
  intro i x hx
  by_cases hi : i < hs.length
  · rw [List.getElem?_append_left hi] at hx
    rw [List.take_append_of_le_length (by omega)]
    exact hc i x hx
  · rw [List.getElem?_append_right (by omega)] at hx
    have hi2 : i - hs.length = 0 := by
      cases hd : i - hs.length with
      | zero => rfl
      | succ k => rw [hd] at hx; simp at hx
    rw [hi2] at hx
    simp at hx
    subst hx
    have : i = hs.length := by omega
    subst this
    rw [List.take_append_of_le_length (Nat.le_refl _), List.take_length]
    exact hn
/-- topologies alike but for the links that are down -/
structure alike (s t : Tp) : Prop where
  ports : s.ports = t.ports
  hosts : s.hosts = t.hosts
  links : s.links.map (fun l => (l.a, l.b)) = t.links.map (fun l => (l.a, l.b))
theorem firstAt_map {α β : Type} {f : α → β} {q : β → Bool} : ∀ (l : List α) (j : Nat), firstAt (fun x => q (f x)) l j = firstAt q (l.map f) j
  | [], _ => rfl
  | x :: l, j => by rw [List.map_cons, firstAt, firstAt, firstAt_map l (j + 1)]
theorem alike_link {s t : Tp} (h : alike s t) (p : Int × Int) : linkAt s p = linkAt t p := by
  unfold linkAt
  have e := fun (l : List Lk) => firstAt_map (f := fun x : Lk => (x.a, x.b)) (q := fun y : (Int × Int) × (Int × Int) => decide (y.1 = p) || decide (y.2 = p)) l 0
  rw [e, e, h.links]
theorem alike_at {s t : Tp} (h : alike s t) {k : Nat} (hs : k < s.links.length) (ht : k < t.links.length) : s.links[k].a = t.links[k].a ∧ s.links[k].b = t.links[k].b := by
  have h1 := congrArg (fun l => l[k]?) h.links
  simp only [List.getElem?_map, List.getElem?_eq_getElem hs, List.getElem?_eq_getElem ht, Option.map_some, Option.some.injEq, Prod.mk.injEq] at h1
  exact h1
theorem alike_len {s t : Tp} (h : alike s t) : s.links.length = t.links.length := by
  have h1 := congrArg List.length h.links
  simpa using h1
theorem alike_host {s t : Tp} (h : alike s t) (p : Int × Int) : hostAt s p = hostAt t p := by rw [hostAt, hostAt, h.hosts]
theorem firstAt_true {α : Type} {f : α → Bool} : ∀ {l : List α} {j : Nat} {x : α}, x ∈ l → f x = true → (firstAt f l j).2 = true
  | [], _, _, h, _ => by cases h
  | y :: l, j, x, h, hf => by
    rw [firstAt]
    split
    · rfl
    · rename_i hy
      rcases List.mem_cons.1 h with rfl | h
      · exact absurd hf hy
      · exact firstAt_true h hf
theorem firstAt_hit {α : Type} {f : α → Bool} : ∀ {l : List α} {j k : Nat}, firstAt f l j = (((j + k : Nat) : Int), true) → ∃ h : k < l.length, f l[k] = true
  | [], j, k, h => by simp [firstAt] at h
  | x :: l, j, k, h => by
    rw [firstAt] at h
    split at h
    · rename_i hx
      simp only [Prod.mk.injEq, and_true] at h
      have : k = 0 := by omega
      subst this
      exact ⟨by simp, hx⟩
    · have hk : 0 < k := by
        rcases @firstAt_is _ f l (j + 1) with h2 | ⟨k2, h2, h3⟩
        · rw [h2] at h; simp at h
        · rw [h3] at h
          simp only [Prod.mk.injEq, and_true] at h
          omega
      obtain ⟨k, rfl⟩ : ∃ m, k = m + 1 := ⟨k - 1, by omega⟩
      obtain ⟨h1, h2⟩ := firstAt_hit (l := l) (j := j + 1) (k := k) (by rw [h]; congr 2; omega)
      exact ⟨by simpa using h1, by simpa using h2⟩
theorem peer_step {s t : Tp} (h : alike s t) {p : Int × Int} (he : (peer s p).2 = 0) : hstep t p (peer s p).1 := by
  unfold peer at he ⊢
  split at he
  · rename_i hc; exact absurd he hc
  rename_i hc
  rw [if_neg hc]
  rcases linkAt_is s p with hl | ⟨k, hk, hl⟩
  · rw [hl] at he; simp at he
  · rw [hl] at he ⊢
    simp only at he ⊢
    have hg : s.links.getD k default = s.links[k] := by rw [List.getD_eq_getElem?_getD, List.getElem?_eq_getElem hk]; rfl
    rw [Int.toNat_natCast, hg] at he ⊢
    split at he
    · simp at he
    rename_i hd
    rw [if_neg hd]
    have hkt : k < t.links.length := by rw [← alike_len h]; exact hk
    obtain ⟨ea, eb⟩ := alike_at h hk hkt
    have hlt : linkAt t p = ((k : Int), true) := by rw [← alike_link h]; exact hl
    obtain ⟨_, hf⟩ := firstAt_hit (l := t.links) (j := 0) (k := k) (by rw [Nat.zero_add]; exact hlt)
    simp only [Bool.or_eq_true, decide_eq_true_eq] at hf
    split
    · rename_i ha
      exact ⟨k, hkt, hlt, .inl ⟨by rw [← ea]; exact ha, eb.symm⟩⟩
    · rename_i ha
      refine ⟨k, hkt, hlt, .inr ⟨?_, ea.symm⟩⟩
      rcases hf with hf | hf
      · rw [← ea] at hf; exact absurd hf ha
      · exact hf
/-- what holds of a run's packets -/
structure LI (t : Tp) (r : Rn) : Prop where
  al : alike r.t t
  ch : ∀ i, i < r.n → chain t (r.pk i).hops
  at_ : ∀ i, i < r.n → (r.pk i).st = 0 → nxt t (r.pk i).hops (r.pk i).at_
  st : ∀ i, i < r.n → (r.pk i).st = 0 ∨ (r.pk i).st = 3 ∨ r.pend = i
theorem LI0 (t : Tp) : LI t (r0 t) := ⟨⟨rfl, rfl, rfl⟩, fun i h => by simp [r0] at h, fun i h => by simp [r0] at h, fun i h => by simp [r0] at h⟩
theorem ckR_fw {r : Rn} {e : Ev} (hc : ckR r e = 0) (h : e.k = 2) : (r.pk e.a.toNat).st ≠ 3 ∧ (r.pk e.a.toNat).at_.1 = e.b := by
  unfold ckR at hc
  split at hc
  · simp at hc
  split at hc
  · rename_i hk hp
    split at hc
    · rename_i he
      unfold endsR at he
      split at he
      · simp at he
      split at he <;> simp only [Bool.and_eq_true, decide_eq_true_eq] at he <;> omega
    · simp at hc
  · rw [if_neg (by omega), if_neg (by omega), if_neg (by omega)] at hc
    unfold ckP at hc
    split at hc
    · simp at hc
    split at hc
    · simp at hc
    rename_i h3
    split at hc
    · simp at hc
    rename_i h4
    refine ⟨h3, ?_⟩
    apply Decidable.byContradiction
    intro hne
    exact h4 (.inr hne)
theorem ckR_end {r : Rn} {e : Ev} (hc : ckR r e = 0) (h : e.k = 3 ∨ e.k = 4) : e.a = r.pend := by
  unfold ckR at hc
  split at hc
  · simp at hc
  split at hc
  · split at hc
    · rename_i he
      unfold endsR at he
      split at he
      · simp at he
      · rename_i ha; exact Decidable.not_not.1 ha
    · simp at hc
  · rw [if_neg (by omega), if_neg (by omega), if_neg (by omega)] at hc
    unfold ckP at hc
    split at hc
    · simp at hc
    split at hc
    · simp at hc
    split at hc
    · simp at hc
    rename_i h4
    exact absurd (.inl (by omega)) h4
theorem LI_step {t : Tp} {r : Rn} {e : Ev} (h : LI t r) (hc : ckR r e = 0) : LI t (apR r e) := by
  unfold apR
  split
  · rename_i h1
    refine ⟨h.al, fun i hi => ?_, fun i hi => ?_, fun i hi => ?_⟩
    all_goals simp only at hi ⊢
    · by_cases he : i = r.n
      · rw [he, setK_same]; exact chain_nil
      · rw [setK, if_neg he]; exact h.ch i (by omega)
    · by_cases he : i = r.n
      · intro _
        rw [he, setK_same]
        have hb : 0 ≤ e.b ∧ e.b < r.t.hosts.length := by
          unfold ckR at hc
          split at hc
          · simp at hc
          split at hc
          · rename_i hk hp
            split at hc
            · rename_i he
              unfold endsR at he
              split at he
              · simp at he
              split at he <;> simp only [Bool.and_eq_true, decide_eq_true_eq] at he <;> omega
            · simp at hc
          · split at hc
            · simp at hc
            · omega
        have hb2 : e.b.toNat < r.t.hosts.length := by omega
        have hg : r.t.hosts.getD e.b.toNat (0, 0) = r.t.hosts[e.b.toNat] := by rw [List.getD_eq_getElem?_getD, List.getElem?_eq_getElem hb2]; rfl
        simp only [nxt, List.getLast?_nil, hg]
        rw [← alike_host h.al]
        exact firstAt_true (List.getElem_mem hb2) (by simp)
      · rw [setK, if_neg he]; exact h.at_ i (by omega)
    · by_cases he : i = r.n
      · rw [he, setK_same]; exact .inl rfl
      · rw [setK, if_neg he]; exact h.st i (by omega)
  split
  · rename_i h2
    obtain ⟨a0, a1, a2⟩ := ckR_pend hc h2
    obtain ⟨s3, sb⟩ := ckR_fw hc h2
    obtain ⟨p, hp⟩ : ∃ p : Nat, e.a = p := ⟨e.a.toNat, by omega⟩
    have hpt : e.a.toNat = p := by omega
    rw [hpt] at s3 sb
    have hpn : p < r.n := by omega
    have s0 : (r.pk p).st = 0 := by
      rcases h.st p hpn with h | h | h
      · exact h
      · exact absurd h s3
      · omega
    have hin : ((e.b, (r.pk p).at_.2) : Int × Int) = (r.pk p).at_ := by rw [← sb]
    have hch : chain t (hopOf (r.pk p) e) := chain_snoc (h.ch p hpn) (by simp only; rw [hin]; exact h.at_ p hpn s0)
    refine ⟨h.al, fun i hi => ?_, fun i hi => ?_, fun i hi => ?_⟩
    all_goals simp only [fwR, hpt] at hi ⊢
    · by_cases he : i = p
      · rw [he, setK_same, fwP_hops]; exact hch
      · rw [setK, if_neg he]; exact h.ch i hi
    · by_cases he : i = p
      · rw [he, setK_same, fwP_hops]
        unfold fwP
        split
        · intro h; simp at h
        split
        · intro h; simp at h
        split
        · rename_i hpe
          intro _
          simp only [nxt, hopOf, List.getLast?_concat]
          exact peer_step h.al hpe
        · intro h; simp at h
      · rw [setK, if_neg he]; exact h.at_ i hi
    · by_cases he : i = p
      · rw [he, setK_same]
        unfold fwP fwN
        split
        · exact .inr (.inl rfl)
        split
        · exact .inr (.inr hp)
        split
        · exact .inl s0
        · exact .inr (.inr hp)
      · rw [setK, if_neg he]
        rcases h.st i hi with h | h | h
        · exact .inl h
        · exact .inr (.inl h)
        · omega
  split
  · rename_i h34
    have ha := ckR_end hc h34
    refine ⟨h.al, fun i hi => ?_, fun i hi => ?_, fun i hi => ?_⟩
    all_goals simp only at hi ⊢
    · by_cases he : i = e.a.toNat
      · rw [he, setK_same]; exact h.ch _ (by rw [← he]; exact hi)
      · rw [setK, if_neg he]; exact h.ch i hi
    · by_cases he : i = e.a.toNat
      · rw [he, setK_same]; intro h; simp at h
      · rw [setK, if_neg he]; exact h.at_ i hi
    · by_cases he : i = e.a.toNat
      · rw [he, setK_same]; exact .inr (.inl rfl)
      · rw [setK, if_neg he]
        rcases h.st i hi with h | h | h
        · exact .inl h
        · exact .inr (.inl h)
        · omega
  split
  · refine ⟨⟨h.al.ports, h.al.hosts, ?_⟩, h.ch, h.at_, h.st⟩
    have hs : (r.t.links.set e.a.toNat { r.t.links.getD e.a.toNat default with dn := decide (e.b = 1) }).map (fun l => (l.a, l.b)) = r.t.links.map (fun l => (l.a, l.b)) := by
      refine List.ext_getElem? fun i => ?_
      rw [List.map_set]
      by_cases hi : e.a.toNat = i
      · subst hi
        rw [List.getElem?_set_self']
        by_cases hl : e.a.toNat < r.t.links.length
        · rw [List.getElem?_map, List.getElem?_eq_getElem hl, List.getD_eq_getElem?_getD, List.getElem?_eq_getElem hl]
          rfl
        · rw [List.getElem?_map, List.getElem?_eq_none (by omega)]
          rfl
      · rw [List.getElem?_set_ne hi]
    exact hs.trans h.al.links
  · exact h
theorem LI_run {t : Tp} : ∀ (l : List Ev) (r : Rn), LI t r → LI t (runG r l)
  | [], r, h => h
  | e :: l, r, h => by
    rw [runG]
    split
    · rename_i hc
      exact LI_run l _ (LI_step h hc)
    · exact h
/-- the hops of a packet follow links -/
theorem hops_chain (t : Tp) (l : List Ev) (id : Int) : chain t (hopsEv t l id) := by
  unfold hopsEv
  split
  · split
    · exact chain_nil
    · exact (LI_run l _ (LI0 t)).ch _ (by omega)
  · exact chain_nil
end Go.Proofs.YtafongdfnpnneaaDoor.Top

/- Chapter 53: the law EventlogLinks as a contract. -/
set_option maxRecDepth 100000
set_option maxHeartbeats 4000000
set_option linter.all false
namespace Go.Proofs.YtafongdfnpnneaaDoor
open Go.Vm Go.ChangeShapes Go.WideShapes Go.ChangeAt Go.RowKit

theorem st_H (l : List Top.Hp) : (Top.slH l).st = Top.slH l := rfl
theorem os_H {g : Bool} {l : List Top.Hp} {xs : List V} {p : Prop} : optSide g (Top.slH l :: xs) p = optSide g xs p := rfl
theorem pc6 (t : Top.Tp) (l : List Ev) (id : Int) : PC Tryd.prog 6 [.agg (Top.encT t), slE l, .int .i64 id] (.bool true) := by
  have h13 := Top.pc13 t
  have hln : (slE l) = .sl false (l.flatMap encE) l.length := rfl
  cases hs : Top.small t with
  | false =>
    rw [hs] at h13
    refine PC.walk tok mixed cfg0 Tryd.func6 rfl Tryd.call6 (by simp [bel_slE, bel_Es, Top.belT, st_H, Top.bel_slH, Top.bel_Hs, Top.bel_ints, Top.bel_Ls, Top.bel_Ps]) (by first | rfl | simp [bel_slE, bel_Es, Top.belT, st_H, Top.bel_slH, Top.bel_Hs, Top.bel_ints, Top.bel_Ls, Top.bel_Ps]) ?_; simp (maxSteps := 2000000) -implicitDefEqProofs +contextual (disch := first | assumption | omega | decide +kernel) only [push_cast, ↓capI, br2_true, br2_false, frk_tt, frk_tf, frk_f, frkD_tt, frkD_tf, frkD_f, pk2_true, pk2_false, imp_true, seval, Nat.reduceLeDiff, Nat.reduceEqDiff, reduceCtorEq, ↓reduceIte, cfg0, st_E, os_E, st_H, os_H, Nat.mul_one, get_flat_part Top.lenH, get_flat_drop Top.lenH, len_flat Top.lenH, get_flat_part Top.lenL, get_flat_drop Top.lenL, len_flat Top.lenL, get_flat0 Top.lenL, Top.encH, Top.encL, Top.eqP, Top.encT, Top.slI, Top.slL, Top.slP, Tryd.ntmps6]
    refine callO.pc h13 ?_
    simp (maxSteps := 2000000) -implicitDefEqProofs +contextual (disch := first | assumption | omega | decide +kernel) only [push_cast, ↓capI, br2_true, br2_false, frk_tt, frk_tf, frk_f, frkD_tt, frkD_tf, frkD_f, pk2_true, pk2_false, imp_true, seval, Nat.reduceLeDiff, Nat.reduceEqDiff, reduceCtorEq, ↓reduceIte, cfg0, st_E, os_E, st_H, os_H, Nat.mul_one, get_flat_part Top.lenH, get_flat_drop Top.lenH, len_flat Top.lenH, get_flat_part Top.lenL, get_flat_drop Top.lenL, len_flat Top.lenL, get_flat0 Top.lenL, Top.encH, Top.encL, Top.eqP, Top.encT, Top.slI, Top.slL, Top.slP]
    refine callO.pc awake ?_
    simp (maxSteps := 2000000) -implicitDefEqProofs +contextual (disch := first | assumption | omega | decide +kernel) only [push_cast, ↓capI, br2_true, br2_false, frk_tt, frk_tf, frk_f, frkD_tt, frkD_tf, frkD_f, pk2_true, pk2_false, imp_true, seval, Nat.reduceLeDiff, Nat.reduceEqDiff, reduceCtorEq, ↓reduceIte, cfg0, st_E, os_E, st_H, os_H, Nat.mul_one, get_flat_part Top.lenH, get_flat_drop Top.lenH, len_flat Top.lenH, get_flat_part Top.lenL, get_flat_drop Top.lenL, len_flat Top.lenL, get_flat0 Top.lenL, Top.encH, Top.encL, Top.eqP, Top.encT, Top.slI, Top.slL, Top.slP]
    refine endK.ret ?_ (by first | rfl | simp [bel_slE, bel_Es, Top.belT, st_H, Top.bel_slH, Top.bel_Hs, Top.bel_ints, Top.bel_Ls, Top.bel_Ps]); simp [evRes, getT, retV, Tryd.f6]
  | true =>
  rw [hs] at h13
  have hf := Top.small_fit hs
  have hp : t.ports.length ≤ 4000000000 := by
    simp only [Top.small, Bool.and_eq_true, decide_eq_true_eq] at hs
    omega
  have hfl := hf.links
  by_cases hl : 80 < l.length
  · have hl2 : (80 : Int) < (l.length : Int) := by omega
    refine PC.walk tok mixed cfg0 Tryd.func6 rfl Tryd.call6 (by simp [bel_slE, bel_Es, Top.belT, st_H, Top.bel_slH, Top.bel_Hs, Top.bel_ints, Top.bel_Ls, Top.bel_Ps]) (by first | rfl | simp [bel_slE, bel_Es, Top.belT, st_H, Top.bel_slH, Top.bel_Hs, Top.bel_ints, Top.bel_Ls, Top.bel_Ps]) ?_; simp (maxSteps := 2000000) -implicitDefEqProofs +contextual (disch := first | assumption | omega | decide +kernel) only [push_cast, ↓capI, br2_true, br2_false, frk_tt, frk_tf, frk_f, frkD_tt, frkD_tf, frkD_f, pk2_true, pk2_false, imp_true, seval, Nat.reduceLeDiff, Nat.reduceEqDiff, reduceCtorEq, ↓reduceIte, cfg0, st_E, os_E, st_H, os_H, Nat.mul_one, get_flat_part Top.lenH, get_flat_drop Top.lenH, len_flat Top.lenH, get_flat_part Top.lenL, get_flat_drop Top.lenL, len_flat Top.lenL, get_flat0 Top.lenL, Top.encH, Top.encL, Top.eqP, Top.encT, Top.slI, Top.slL, Top.slP, Tryd.ntmps6]
    refine callO.pc h13 ?_
    simp (maxSteps := 2000000) -implicitDefEqProofs +contextual (disch := first | assumption | omega | decide +kernel) only [push_cast, ↓capI, br2_true, br2_false, frk_tt, frk_tf, frk_f, frkD_tt, frkD_tf, frkD_f, pk2_true, pk2_false, imp_true, seval, Nat.reduceLeDiff, Nat.reduceEqDiff, reduceCtorEq, ↓reduceIte, cfg0, st_E, os_E, st_H, os_H, Nat.mul_one, get_flat_part Top.lenH, get_flat_drop Top.lenH, len_flat Top.lenH, get_flat_part Top.lenL, get_flat_drop Top.lenL, len_flat Top.lenL, get_flat0 Top.lenL, Top.encH, Top.encL, Top.eqP, Top.encT, Top.slI, Top.slL, Top.slP, hln, hl2]
    refine callO.pc awake ?_
    simp (maxSteps := 2000000) -implicitDefEqProofs +contextual (disch := first | assumption | omega | decide +kernel) only [push_cast, ↓capI, br2_true, br2_false, frk_tt, frk_tf, frk_f, frkD_tt, frkD_tf, frkD_f, pk2_true, pk2_false, imp_true, seval, Nat.reduceLeDiff, Nat.reduceEqDiff, reduceCtorEq, ↓reduceIte, cfg0, st_E, os_E, st_H, os_H, Nat.mul_one, get_flat_part Top.lenH, get_flat_drop Top.lenH, len_flat Top.lenH, get_flat_part Top.lenL, get_flat_drop Top.lenL, len_flat Top.lenL, get_flat0 Top.lenL, Top.encH, Top.encL, Top.eqP, Top.encT, Top.slI, Top.slL, Top.slP]
    refine endK.ret ?_ (by first | rfl | simp [bel_slE, bel_Es, Top.belT, st_H, Top.bel_slH, Top.bel_Hs, Top.bel_ints, Top.bel_Ls, Top.bel_Ps]); simp [evRes, getT, retV, Tryd.f6]
  have hl2 : ¬ (80 : Int) < (l.length : Int) := by omega
  have h15 := Top.pc15 t hf
  by_cases hc : Top.chk t = 0
  case neg =>
    refine PC.walk tok mixed cfg0 Tryd.func6 rfl Tryd.call6 (by simp [bel_slE, bel_Es, Top.belT, st_H, Top.bel_slH, Top.bel_Hs, Top.bel_ints, Top.bel_Ls, Top.bel_Ps]) (by first | rfl | simp [bel_slE, bel_Es, Top.belT, st_H, Top.bel_slH, Top.bel_Hs, Top.bel_ints, Top.bel_Ls, Top.bel_Ps]) ?_; simp (maxSteps := 2000000) -implicitDefEqProofs +contextual (disch := first | assumption | omega | decide +kernel) only [push_cast, ↓capI, br2_true, br2_false, frk_tt, frk_tf, frk_f, frkD_tt, frkD_tf, frkD_f, pk2_true, pk2_false, imp_true, seval, Nat.reduceLeDiff, Nat.reduceEqDiff, reduceCtorEq, ↓reduceIte, cfg0, st_E, os_E, st_H, os_H, Nat.mul_one, get_flat_part Top.lenH, get_flat_drop Top.lenH, len_flat Top.lenH, get_flat_part Top.lenL, get_flat_drop Top.lenL, len_flat Top.lenL, get_flat0 Top.lenL, Top.encH, Top.encL, Top.eqP, Top.encT, Top.slI, Top.slL, Top.slP, Tryd.ntmps6]
    refine callO.pc h13 ?_
    simp (maxSteps := 2000000) -implicitDefEqProofs +contextual (disch := first | assumption | omega | decide +kernel) only [push_cast, ↓capI, br2_true, br2_false, frk_tt, frk_tf, frk_f, frkD_tt, frkD_tf, frkD_f, pk2_true, pk2_false, imp_true, seval, Nat.reduceLeDiff, Nat.reduceEqDiff, reduceCtorEq, ↓reduceIte, cfg0, st_E, os_E, st_H, os_H, Nat.mul_one, get_flat_part Top.lenH, get_flat_drop Top.lenH, len_flat Top.lenH, get_flat_part Top.lenL, get_flat_drop Top.lenL, len_flat Top.lenL, get_flat0 Top.lenL, Top.encH, Top.encL, Top.eqP, Top.encT, Top.slI, Top.slL, Top.slP, hln, hl2]
    refine callO.pc h15 ?_
    simp (maxSteps := 2000000) -implicitDefEqProofs +contextual (disch := first | assumption | omega | decide +kernel) only [push_cast, ↓capI, br2_true, br2_false, frk_tt, frk_tf, frk_f, frkD_tt, frkD_tf, frkD_f, pk2_true, pk2_false, imp_true, seval, Nat.reduceLeDiff, Nat.reduceEqDiff, reduceCtorEq, ↓reduceIte, cfg0, st_E, os_E, st_H, os_H, Nat.mul_one, get_flat_part Top.lenH, get_flat_drop Top.lenH, len_flat Top.lenH, get_flat_part Top.lenL, get_flat_drop Top.lenL, len_flat Top.lenL, get_flat0 Top.lenL, Top.encH, Top.encL, Top.eqP, Top.encT, Top.slI, Top.slL, Top.slP, hc]
    refine callO.pc awake ?_
    simp (maxSteps := 2000000) -implicitDefEqProofs +contextual (disch := first | assumption | omega | decide +kernel) only [push_cast, ↓capI, br2_true, br2_false, frk_tt, frk_tf, frk_f, frkD_tt, frkD_tf, frkD_f, pk2_true, pk2_false, imp_true, seval, Nat.reduceLeDiff, Nat.reduceEqDiff, reduceCtorEq, ↓reduceIte, cfg0, st_E, os_E, st_H, os_H, Nat.mul_one, get_flat_part Top.lenH, get_flat_drop Top.lenH, len_flat Top.lenH, get_flat_part Top.lenL, get_flat_drop Top.lenL, len_flat Top.lenL, get_flat0 Top.lenL, Top.encH, Top.encL, Top.eqP, Top.encT, Top.slI, Top.slL, Top.slP]
    refine endK.ret ?_ (by first | rfl | simp [bel_slE, bel_Es, Top.belT, st_H, Top.bel_slH, Top.bel_Hs, Top.bel_ints, Top.bel_Ls, Top.bel_Ps]); simp [evRes, getT, retV, Tryd.f6]
  rw [hc] at h15
  have h16 := Top.pc16 t hf hp l (by omega) id
  have hch := Top.hops_chain t l id
  have hlen : (Top.hopsEv t l id).length ≤ 80 := by
    unfold Top.hopsEv
    rw [if_pos hc]
    split
    · simp
    · have hrun : ∀ (l : List Ev) (r : Top.Rn) (j : Nat), r.inv t j → ∃ k, k ≤ j + l.length ∧ (Top.runG r l).inv t k := by
        intro l
        induction l with
        | nil => intro r j h; exact ⟨j, by simp, h⟩
        | cons e l ih =>
          intro r j h
          rw [Top.runG]
          split
          · rename_i h0
            obtain ⟨k, h1, h2⟩ := ih _ _ (Top.inv_step h h0)
            exact ⟨k, by simp only [List.length_cons]; omega, h2⟩
          · exact ⟨j, by simp, h⟩
      obtain ⟨k, h1, h2⟩ := hrun l _ 0 (Top.inv0 t)
      have := h2.hops id.toNat
      omega
  generalize Top.hopsEv t l id = hs at h16 hch hlen
  refine PC.walk tok mixed cfg0 Tryd.func6 rfl Tryd.call6 (by simp [bel_slE, bel_Es, Top.belT, st_H, Top.bel_slH, Top.bel_Hs, Top.bel_ints, Top.bel_Ls, Top.bel_Ps]) (by first | rfl | simp [bel_slE, bel_Es, Top.belT, st_H, Top.bel_slH, Top.bel_Hs, Top.bel_ints, Top.bel_Ls, Top.bel_Ps]) ?_; simp (maxSteps := 2000000) -implicitDefEqProofs +contextual (disch := first | assumption | omega | decide +kernel) only [push_cast, ↓capI, br2_true, br2_false, frk_tt, frk_tf, frk_f, frkD_tt, frkD_tf, frkD_f, pk2_true, pk2_false, imp_true, seval, Nat.reduceLeDiff, Nat.reduceEqDiff, reduceCtorEq, ↓reduceIte, cfg0, st_E, os_E, st_H, os_H, Nat.mul_one, get_flat_part Top.lenH, get_flat_drop Top.lenH, len_flat Top.lenH, get_flat_part Top.lenL, get_flat_drop Top.lenL, len_flat Top.lenL, get_flat0 Top.lenL, Top.encH, Top.encL, Top.eqP, Top.encT, Top.slI, Top.slL, Top.slP, Tryd.ntmps6]
  refine callO.pc h13 ?_
  simp (maxSteps := 2000000) -implicitDefEqProofs +contextual (disch := first | assumption | omega | decide +kernel) only [push_cast, ↓capI, br2_true, br2_false, frk_tt, frk_tf, frk_f, frkD_tt, frkD_tf, frkD_f, pk2_true, pk2_false, imp_true, seval, Nat.reduceLeDiff, Nat.reduceEqDiff, reduceCtorEq, ↓reduceIte, cfg0, st_E, os_E, st_H, os_H, Nat.mul_one, get_flat_part Top.lenH, get_flat_drop Top.lenH, len_flat Top.lenH, get_flat_part Top.lenL, get_flat_drop Top.lenL, len_flat Top.lenL, get_flat0 Top.lenL, Top.encH, Top.encL, Top.eqP, Top.encT, Top.slI, Top.slL, Top.slP, hln, hl2]
  refine callO.pc h15 ?_
  simp (maxSteps := 2000000) -implicitDefEqProofs +contextual (disch := first | assumption | omega | decide +kernel) only [push_cast, ↓capI, br2_true, br2_false, frk_tt, frk_tf, frk_f, frkD_tt, frkD_tf, frkD_f, pk2_true, pk2_false, imp_true, seval, Nat.reduceLeDiff, Nat.reduceEqDiff, reduceCtorEq, ↓reduceIte, cfg0, st_E, os_E, st_H, os_H, Nat.mul_one, get_flat_part Top.lenH, get_flat_drop Top.lenH, len_flat Top.lenH, get_flat_part Top.lenL, get_flat_drop Top.lenL, len_flat Top.lenL, get_flat0 Top.lenL, Top.encH, Top.encL, Top.eqP, Top.encT, Top.slI, Top.slL, Top.slP]
  refine callO.pc h16 ?_
  simp (maxSteps := 2000000) -implicitDefEqProofs +contextual (disch := first | assumption | omega | decide +kernel) only [push_cast, ↓capI, br2_true, br2_false, frk_tt, frk_tf, frk_f, frkD_tt, frkD_tf, frkD_f, pk2_true, pk2_false, imp_true, seval, Nat.reduceLeDiff, Nat.reduceEqDiff, reduceCtorEq, ↓reduceIte, cfg0, st_E, os_E, st_H, os_H, Nat.mul_one, get_flat_part Top.lenH, get_flat_drop Top.lenH, len_flat Top.lenH, get_flat_part Top.lenL, get_flat_drop Top.lenL, len_flat Top.lenL, get_flat0 Top.lenL, Top.encH, Top.encL, Top.eqP, Top.encT, Top.slI, Top.slL, Top.slP]
  refine T.lp tok mixed cfg0 (fun (i : Nat) => dd 3 (kp 1 (dd 3 (kp 1 (sv (.int .i64 i) (dd 125 (nl))))))) (fun H0 (i : Nat) => H0) (fun (i : Nat) => i ≤ hs.length) (fun (i : Nat) => hs.length - i) (0) ?_ ?_ ?_
  · exact Nat.zero_le _
  · exact Gn.canon (J := _) (by first | rfl | (simp [List.append_nil]; done) | (simp [List.append_nil]; rfl)) (by simp [wk, Top.slH, putT, kp, dd, sv, nl]) (by simp [List.length_append]) (by simp [bel_slE, bel_Es, Top.belT, st_H, Top.bel_slH, Top.bel_Hs, Top.bel_ints, Top.bel_Ls, Top.bel_Ps, kp, dd, sv, nl]) (by simp [bel_slE, bel_Es, Top.belT, st_H, Top.bel_slH, Top.bel_Hs, Top.bel_ints, Top.bel_Ls, Top.bel_Ps])
  intro i hi
  by_cases hlt : i < hs.length
  case neg =>
    have : ¬ (i : Int) < (hs.length : Int) := by omega
    simp (maxSteps := 2000000) -implicitDefEqProofs +contextual (disch := first | assumption | omega | decide +kernel) only [push_cast, ↓capI, br2_true, br2_false, frk_tt, frk_tf, frk_f, frkD_tt, frkD_tf, frkD_f, pk2_true, pk2_false, imp_true, seval, Nat.reduceLeDiff, Nat.reduceEqDiff, reduceCtorEq, ↓reduceIte, cfg0, st_E, os_E, st_H, os_H, Nat.mul_one, get_flat_part Top.lenH, get_flat_drop Top.lenH, len_flat Top.lenH, get_flat_part Top.lenL, get_flat_drop Top.lenL, len_flat Top.lenL, get_flat0 Top.lenL, Top.encH, Top.encL, Top.eqP, Top.encT, Top.slI, Top.slL, Top.slP, Top.slH]
    refine callO.pc awake ?_
    simp (maxSteps := 2000000) -implicitDefEqProofs +contextual (disch := first | assumption | omega | decide +kernel) only [push_cast, ↓capI, br2_true, br2_false, frk_tt, frk_tf, frk_f, frkD_tt, frkD_tf, frkD_f, pk2_true, pk2_false, imp_true, seval, Nat.reduceLeDiff, Nat.reduceEqDiff, reduceCtorEq, ↓reduceIte, cfg0, st_E, os_E, st_H, os_H, Nat.mul_one, get_flat_part Top.lenH, get_flat_drop Top.lenH, len_flat Top.lenH, get_flat_part Top.lenL, get_flat_drop Top.lenL, len_flat Top.lenL, get_flat0 Top.lenL, Top.encH, Top.encL, Top.eqP, Top.encT, Top.slI, Top.slL, Top.slP]
    refine endK.ret ?_ (by first | rfl | simp [bel_slE, bel_Es, Top.belT, st_H, Top.bel_slH, Top.bel_Hs, Top.bel_ints, Top.bel_Ls, Top.bel_Ps]); simp [evRes, getT, retV, Tryd.f6]
  have hx : hs[i]? = some hs[i] := List.getElem?_eq_getElem hlt
  have hn := hch i _ hx
  have h17 := Top.pc17 t (hs[i].1, hs[i].2.1) hf
  cases i with
  | zero =>
    simp only [Top.nxt, List.take_zero, List.getLast?_nil] at hn
    generalize Top.hostAt t (hs[0].1, hs[0].2.1) = r at h17 hn
    obtain ⟨k, b⟩ := r
    simp only at hn
    subst hn
    have z1 : getV (hs.flatMap Top.encH) 0 1 = [.int .i64 hs[0].1] := by
      have := get_flat_part Top.lenH hs 0 hlt 1 (by decide)
      rw [Nat.zero_mul, List.drop_zero] at this
      rw [this]; rfl
    have z2 : getV ((hs.flatMap Top.encH).drop 1) 0 1 = [.int .i64 hs[0].2.1] := by
      have := get_flat_drop Top.lenH hs 0 hlt 1 1 (by decide)
      rw [Nat.zero_mul, List.drop_zero] at this
      rw [this]; rfl
    simp (maxSteps := 2000000) -implicitDefEqProofs +contextual (disch := first | assumption | omega | decide +kernel) only [push_cast, ↓capI, br2_true, br2_false, frk_tt, frk_tf, frk_f, frkD_tt, frkD_tf, frkD_f, pk2_true, pk2_false, imp_true, seval, Nat.reduceLeDiff, Nat.reduceEqDiff, reduceCtorEq, ↓reduceIte, cfg0, st_E, os_E, st_H, os_H, Nat.mul_one, get_flat_part Top.lenH, get_flat_drop Top.lenH, len_flat Top.lenH, get_flat_part Top.lenL, get_flat_drop Top.lenL, len_flat Top.lenL, get_flat0 Top.lenL, Top.encH, Top.encL, Top.eqP, Top.encT, Top.slI, Top.slL, Top.slP, Top.slH, z1, z2]
    refine callO.pc h17 ?_
    simp (maxSteps := 2000000) -implicitDefEqProofs +contextual (disch := first | assumption | omega | decide +kernel) only [push_cast, ↓capI, br2_true, br2_false, frk_tt, frk_tf, frk_f, frkD_tt, frkD_tf, frkD_f, pk2_true, pk2_false, imp_true, seval, Nat.reduceLeDiff, Nat.reduceEqDiff, reduceCtorEq, ↓reduceIte, cfg0, st_E, os_E, st_H, os_H, Nat.mul_one, get_flat_part Top.lenH, get_flat_drop Top.lenH, len_flat Top.lenH, get_flat_part Top.lenL, get_flat_drop Top.lenL, len_flat Top.lenL, get_flat0 Top.lenL, Top.encH, Top.encL, Top.eqP, Top.encT, Top.slI, Top.slL, Top.slP, encIB]
    refine ⟨1, hlt, by (try simp only); omega, ?_⟩; exact Gn.canon (by first | rfl | (simp [List.append_nil]; rfl)) (by simp [wk, Top.slH]) (by simp [List.length_append]) (by simp [bel_slE, bel_Es, Top.belT, st_H, Top.bel_slH, Top.bel_Hs, Top.bel_ints, Top.bel_Ls, Top.bel_Ps]) (by simp [bel_slE, bel_Es, Top.belT, st_H, Top.bel_slH, Top.bel_Hs, Top.bel_ints, Top.bel_Ls, Top.bel_Ps])
  | succ j =>
    have hj : j < hs.length := by omega
    have hg : (hs.take (j + 1)).getLast? = some hs[j] := by
      rw [List.take_add_one, List.getElem?_eq_getElem hj, Option.toList_some, List.getLast?_concat]
    simp only [Top.nxt, hg] at hn
    obtain ⟨k, hk, hl1, hl3⟩ := hn
    have h18 := Top.pc18 t (hs[j].1, hs[j].2.2) hf
    rw [hl1] at h18
    have hk2 : (k : Int) < (t.links.length : Int) := by omega
    have t1 : ((j : Int) + 1).toNat = j + 1 := by omega
    have hin : ∃ q : Int × Int, q = (hs[j + 1].1, hs[j + 1].2.1) := ⟨_, rfl⟩
    have hQ : ∀ (x : Int × Int) (u v : Int), (x.1 == u && x.2 == v) = decide (x = (u, v)) := fun x u v => by
      obtain ⟨a, b⟩ := x
      exact Top.eqP (a := (a, b)) (b := (u, v))
    rcases hl3 with ⟨hA, hB⟩ | ⟨hB, hA⟩
    · simp (maxSteps := 2000000) -implicitDefEqProofs +contextual (disch := first | assumption | omega | decide +kernel) only [push_cast, ↓capI, br2_true, br2_false, frk_tt, frk_tf, frk_f, frkD_tt, frkD_tf, frkD_f, pk2_true, pk2_false, imp_true, seval, Nat.reduceLeDiff, Nat.reduceEqDiff, reduceCtorEq, ↓reduceIte, cfg0, st_E, os_E, st_H, os_H, Nat.mul_one, get_flat_part Top.lenH, get_flat_drop Top.lenH, len_flat Top.lenH, get_flat_part Top.lenL, get_flat_drop Top.lenL, len_flat Top.lenL, get_flat0 Top.lenL, Top.encH, Top.encL, Top.eqP, Top.encT, Top.slI, Top.slL, Top.slP, Top.slH, Int.add_sub_cancel, t1]
      refine callO.pc h18 ?_
      simp (maxSteps := 2000000) -implicitDefEqProofs +contextual (disch := first | assumption | omega | decide +kernel) only [push_cast, ↓capI, br2_true, br2_false, frk_tt, frk_tf, frk_f, frkD_tt, frkD_tf, frkD_f, pk2_true, pk2_false, imp_true, seval, Nat.reduceLeDiff, Nat.reduceEqDiff, reduceCtorEq, ↓reduceIte, cfg0, st_E, os_E, st_H, os_H, Nat.mul_one, get_flat_part Top.lenH, get_flat_drop Top.lenH, len_flat Top.lenH, get_flat_part Top.lenL, get_flat_drop Top.lenL, len_flat Top.lenL, get_flat0 Top.lenL, Top.encH, Top.encL, Top.eqP, Top.encT, Top.slI, Top.slL, Top.slP, encIB, t1, hQ, hA, hB]
      refine ⟨j + 1 + 1, by (try simp only); omega, by (try simp only); omega, ?_⟩; exact Gn.canon (by first | rfl | (simp [List.append_nil]; rfl)) (by simp [wk, Top.slH]) (by simp [List.length_append]) (by simp [bel_slE, bel_Es, Top.belT, st_H, Top.bel_slH, Top.bel_Hs, Top.bel_ints, Top.bel_Ls, Top.bel_Ps]) (by simp [bel_slE, bel_Es, Top.belT, st_H, Top.bel_slH, Top.bel_Hs, Top.bel_ints, Top.bel_Ls, Top.bel_Ps])
    · simp (maxSteps := 2000000) -implicitDefEqProofs +contextual (disch := first | assumption | omega | decide +kernel) only [push_cast, ↓capI, br2_true, br2_false, frk_tt, frk_tf, frk_f, frkD_tt, frkD_tf, frkD_f, pk2_true, pk2_false, imp_true, seval, Nat.reduceLeDiff, Nat.reduceEqDiff, reduceCtorEq, ↓reduceIte, cfg0, st_E, os_E, st_H, os_H, Nat.mul_one, get_flat_part Top.lenH, get_flat_drop Top.lenH, len_flat Top.lenH, get_flat_part Top.lenL, get_flat_drop Top.lenL, len_flat Top.lenL, get_flat0 Top.lenL, Top.encH, Top.encL, Top.eqP, Top.encT, Top.slI, Top.slL, Top.slP, Top.slH, Int.add_sub_cancel, t1]
      refine callO.pc h18 ?_
      simp (maxSteps := 2000000) -implicitDefEqProofs +contextual (disch := first | assumption | omega | decide +kernel) only [push_cast, ↓capI, br2_true, br2_false, frk_tt, frk_tf, frk_f, frkD_tt, frkD_tf, frkD_f, pk2_true, pk2_false, imp_true, seval, Nat.reduceLeDiff, Nat.reduceEqDiff, reduceCtorEq, ↓reduceIte, cfg0, st_E, os_E, st_H, os_H, Nat.mul_one, get_flat_part Top.lenH, get_flat_drop Top.lenH, len_flat Top.lenH, get_flat_part Top.lenL, get_flat_drop Top.lenL, len_flat Top.lenL, get_flat0 Top.lenL, Top.encH, Top.encL, Top.eqP, Top.encT, Top.slI, Top.slL, Top.slP, encIB, t1, hQ]
      repeat' (first | intro _ | refine And.intro ?_ ?_)
      all_goals first
        | refine ⟨j + 1 + 1, by (try simp only); omega, by (try simp only); omega, ?_⟩; exact Gn.canon (by first | rfl | (simp [List.append_nil]; rfl)) (by simp [wk, Top.slH]) (by simp [List.length_append]) (by simp [bel_slE, bel_Es, Top.belT, st_H, Top.bel_slH, Top.bel_Hs, Top.bel_ints, Top.bel_Ls, Top.bel_Ps]) (by simp [bel_slE, bel_Es, Top.belT, st_H, Top.bel_slH, Top.bel_Hs, Top.bel_ints, Top.bel_Ls, Top.bel_Ps])
        | (exfalso; simp_all; done)
      all_goals trace_state
      all_goals sorry
theorem law6 (xs : List V) (h : TypA tt 8 [36, 22, 3] xs) : PC Tryd.prog 6 xs (.bool true) := by
  obtain ⟨v, vs, cs, rfl, rfl, h1, h⟩ := typA_cons h
  obtain ⟨v, vs, cs2, rfl, rfl, h2, h⟩ := typA_cons h
  obtain ⟨v, vs, cs3, rfl, rfl, h3, h⟩ := typA_cons h
  obtain rfl := typA_nil h
  obtain ⟨t, ht⟩ := typ_T (m := 3) h1
  obtain ⟨l, hl, _⟩ := typ_slE h2
  obtain ⟨n, hn⟩ := typ_J h3
  refine PC.lax ?_
  rw [laxs, laxs, laxs, laxs, ht, hl, hn]
  exact pc6 t l n
end Go.Proofs.YtafongdfnpnneaaDoor

