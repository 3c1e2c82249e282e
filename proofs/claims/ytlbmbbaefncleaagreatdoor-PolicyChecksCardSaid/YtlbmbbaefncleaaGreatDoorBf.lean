/-
  Chapter 45: Format of the program.
-/
import Derived.Test.YtlbmbbaefncleaaGreatDoorBq
import Derived.Deep.RegionHeld3
import Derived.Test.YtlbmbbaefncleaaGreatDoorVm4
set_option linter.unusedVariables false
set_option linter.all false
set_option maxRecDepth 100000
set_option maxHeartbeats 4000000
namespace Go.Proofs.YtlbmbbaefncleaaGreatDoor
open Go.Vm Go.RowKit

/-- a rule: its hosts, and what its predicate's and its path's texts are -/
structure Rg where
  f : Int
  t : Int
  p : V
  q : V
  ps : List UInt8
  qs : List UInt8
  pe : Int
  qe : Int
instance : Inhabited Rg := ⟨⟨0, 0, .dead, .dead, [], [], 0, 0⟩⟩
def encG (r : Rg) : List V := [.int .i64 r.f, .int .i64 r.t, r.p, r.q]
def slG (l : List Rg) : V := .sl false (l.flatMap encG) l.length
def headG (r : Rg) : List UInt8 := [114, 117, 108, 101, 32] ++ decH r.f ++ [32] ++ decH r.t
def lineG (r : Rg) : List UInt8 := headG r ++ [10] ++ (r.ps ++ [10] ++ (r.qs ++ [10]))
def chkG (r : Rg) : Int := if (hostB r.f && hostB r.t) = true then (if r.pe = 0 then r.qe else r.pe) else 9
def txtG (l : List Rg) : List UInt8 := l.flatMap lineG
def badG : List Rg → Int
  | [] => 0
  | e :: l => if chkG e = 0 then badG l else chkG e
def fmtG (l : List Rg) : List UInt8 × Int := if badG l ≠ 0 then ([], badG l) else if 16384 < (txtG l).length then ([], 4) else (txtG l, 0)
theorem badG_at : ∀ {l : List Rg} {k : Nat} {e : Rg}, l[k]? = some e → badG (l.take k) = 0 → ¬ chkG e = 0 → badG l = chkG e
  | [], _, _, h, _, _ => by simp at h
  | x :: l, 0, e, h, _, hn => by
    simp at h
    subst h
    rw [badG, if_neg hn]
  | x :: l, k + 1, e, h, hb, hn => by
    rw [List.getElem?_cons_succ] at h
    rw [List.take_succ_cons, badG] at hb
    split at hb
    · rename_i h0
      rw [badG, if_pos h0]
      exact badG_at h hb hn
    · rename_i h0
      exact absurd hb h0
theorem badG_step : ∀ {l : List Rg} {k : Nat} {e : Rg}, l[k]? = some e → badG (l.take k) = 0 → chkG e = 0 → badG (l.take (k + 1)) = 0
  | [], _, _, h, _, _ => by simp at h
  | x :: l, 0, e, h, _, hn => by
    simp at h
    subst h
    rw [List.take_succ_cons, badG, if_pos hn]; rfl
  | x :: l, k + 1, e, h, hb, hn => by
    rw [List.getElem?_cons_succ] at h
    rw [List.take_succ_cons, badG] at hb ⊢
    split at hb
    · rename_i h0
      rw [if_pos h0]
      exact badG_step h hb hn
    · rename_i h0
      exact absurd hb h0
theorem txtG_step {l : List Rg} {k : Nat} {e : Rg} (h : l[k]? = some e) : txtG (l.take (k + 1)) = txtG (l.take k) ++ lineG e := by
  rw [txtG, List.take_succ, h, List.flatMap_append]
  simp [txtG]
/-- from a contract to a call -/
theorem kc1 {n : Nat} {xs : List V} {v : V} (h : PC Tryz.prog n xs v) {w : World} (hw : W0 w) {vals : List Value} (ha : VRs no w [] xs vals) :
    Calls Tryz.prog n vals.toArray w fun x w' => ∃ u, x = .returned u ∧ VR no w' [] v u ∧ Below w.heap.size w w' := PC.calls h hw ha
theorem kcB {n : Nat} {a : Int} {b : Bool} (h : PC Tryz.prog n [.int .i64 a] (.bool b)) {w : World} (hw : W0 w) :
    Calls Tryz.prog n #[.int .i64 a] w fun x w' => x = .returned (.bool b) ∧ Below w.heap.size w w' := by
  refine (PC.calls h hw (vals := [.int .i64 a]) (by simp only [VRs, VR, and_true])).mono ?_
  rintro x w' ⟨u, rfl, h1, h2⟩
  simp only [VR] at h1
  exact ⟨by rw [h1], h2⟩
theorem kcT {n : Nat} {p : V} {s : List UInt8} {e : Int} (h : PC Tryz.prog n [p] (.tup [.str s, .int .i64 e])) {w : World} (hw : W0 w) {vp : Value} (hv : VR no w [] p vp) :
    Calls Tryz.prog n #[vp] w fun x w' => x = .returned (.tuple #[.string ⟨s.toArray⟩, .int .i64 e]) ∧ Below w.heap.size w w' := by
  refine (PC.calls h hw (vals := [vp]) (by simp only [VRs, and_true]; exact hv)).mono ?_
  rintro x w' ⟨u, rfl, h1, h2⟩
  simp only [VR] at h1
  obtain ⟨l, rfl, h1⟩ := h1
  match l, h1 with
  | [a, b], h1 =>
    simp only [VRs, VR, and_true] at h1
    obtain ⟨rfl, rfl⟩ := h1
    exact ⟨rfl, h2⟩
  | [], h1 => simp [VRs] at h1
  | [_], h1 => simp [VRs] at h1
  | _ :: _ :: _ :: _, h1 => simp [VRs] at h1
theorem vr_low {w w' : World} {x : V} {v : Value} (h : VR no w [] x v) (hb : Below w.heap.size w w') : VR no w' [] x v := by
  have := VR.ext (O := no) (below_ext hb (β := []) rfl) x v (by rw [own_no]; exact h)
  rwa [own_no] at this
/-- what is known of the world between the calls of a round -/
structure Bst (w0 : World) (B n : Nat) (bs : List Value) (o : Obj) (W : World) : Prop where
  bel : Below B w0 W
  bld : Lib.IsBuilder 73 5 B B bs W
  box : W.heap[n]? = some o
  lt : n < W.heap.size
  le : B ≤ W.heap.size
theorem Bst.step {w0 W W' : World} {B n : Nat} {bs : List Value} {o : Obj} (h : Bst w0 B n bs o W) (hb : Below W.heap.size W W') : Bst w0 B n bs o W' :=
  ⟨h.bel.trans (hb.mono h.le), isb_keep h.bld fun j hj => hb.block j hj, by rw [hb.block n h.lt]; exact h.box, Nat.lt_of_lt_of_le h.lt hb.size, Nat.le_trans h.le hb.size⟩
theorem Bst.start {w0 W : World} {B : Nat} {bs : List Value} {cs : Array Value} {t : TypeId} (hb : Below B w0 W) (hB : Lib.IsBuilder 73 5 B B bs W) (hle : B ≤ W.heap.size) : Bst w0 B W.heap.size bs (.cells cs t (0, 0)) (W.alloc (.cells cs t)) :=
  ⟨hb.alloc hle _, isb_keep hB fun j hj => heap_alloc_old W _ hj, heap_alloc_new W _, by simp, by simp; omega⟩
theorem Bst.c0 {w0 W : World} {B n : Nat} {bs : List Value} {x0 x1 x2 x3 : Value} {t : TypeId} (h : Bst w0 B n bs (.cells #[x0, x1, x2, x3] t (0, 0)) W) : W.cell? ⟨n, 0, none⟩ = some x0 := by rw [Lib.cell_of_heap h.box]; rfl
theorem Bst.c1 {w0 W : World} {B n : Nat} {bs : List Value} {x0 x1 x2 x3 : Value} {t : TypeId} (h : Bst w0 B n bs (.cells #[x0, x1, x2, x3] t (0, 0)) W) : W.cell? ⟨n, 1, none⟩ = some x1 := by rw [Lib.cell_of_heap h.box]; rfl
theorem Bst.c2 {w0 W : World} {B n : Nat} {bs : List Value} {x0 x1 x2 x3 : Value} {t : TypeId} (h : Bst w0 B n bs (.cells #[x0, x1, x2, x3] t (0, 0)) W) : W.cell? ⟨n, 2, none⟩ = some x2 := by rw [Lib.cell_of_heap h.box]; rfl
theorem Bst.c3 {w0 W : World} {B n : Nat} {bs : List Value} {x0 x1 x2 x3 : Value} {t : TypeId} (h : Bst w0 B n bs (.cells #[x0, x1, x2, x3] t (0, 0)) W) : W.cell? ⟨n, 3, none⟩ = some x3 := by rw [Lib.cell_of_heap h.box]; rfl
theorem fmtG_bad {l : List Rg} {k : Nat} {e : Rg} (hf : l[k]? = some e) (hb : badG (l.take k) = 0) {c : Int} (hc : chkG e = c) (hn : c ≠ 0) : fmtG l = ([], c) := by
  have := badG_at hf hb (by rw [hc]; exact hn)
  rw [fmtG, this, hc, if_pos hn]
theorem decH_size (n : Int) : (⟨(decH n).toArray⟩ : ByteArray).size ≤ 2 := by
  unfold decH
  split <;> simp [ByteArray.size]
/-- a short text -/
class Sm (s : ByteArray) : Prop where
  le : s.size ≤ 1000
theorem sm1 (b : ByteArray) [hb : Sm b] : (9223372036854775807 < 5 + b.size) = False := eq_false (by have := hb.le; omega)
theorem sm2 (b : ByteArray) [hb : Sm b] : (9223372036854775807 < 5 + b.size + 1) = False := eq_false (by have := hb.le; omega)
theorem sm3 (b c : ByteArray) [hb : Sm b] [hc : Sm c] : (9223372036854775807 < 5 + b.size + 1 + c.size) = False := eq_false (by have := hb.le; have := hc.le; omega)
attribute [local go_sem] sm1 sm2 sm3
/-- the parts of a rule's lines -/
def prtG (r : Rg) : Nat → List UInt8
  | 0 => []
  | 1 => headG r ++ [10]
  | 2 => headG r ++ [10] ++ (r.ps ++ [10])
  | _ => lineG r
def strG (r : Rg) (sf st : ByteArray) : Nat → ByteArray
  | 0 => ⟨#[114, 117, 108, 101, 32]⟩ ++ sf ++ ⟨#[32]⟩ ++ st
  | 1 => ⟨r.ps.toArray⟩
  | _ => ⟨r.qs.toArray⟩
theorem prt_step {r : Rg} {sf st : ByteArray} (hf : ⟨(decH r.f).toArray⟩ = sf) (ht : ⟨(decH r.t).toArray⟩ = st) : ∀ {j : Nat}, j < 3 → prtG r (j + 1) = prtG r j ++ ((strG r sf st j).data.toList ++ [10])
  | 0, _ => by
    subst hf ht
    simp [prtG, strG, headG, ByteArray.data_append]
  | 1, _ => by simp [prtG, strG]
  | 2, _ => by simp [prtG, strG, lineG]
theorem str_size {r : Rg} {sf st : ByteArray} (zf : sf.size ≤ 2) (zt : st.size ≤ 2) (h1 : r.ps.length ≤ 100000000) (h2 : r.qs.length ≤ 100000000) : ∀ j, (strG r sf st j).size ≤ 100000000
  | 0 => by
    simp only [strG, ByteArray.size_append]
    show 5 + _ + 1 + _ ≤ _
    omega
  | 1 => by simpa [strG, ByteArray.size] using h1
  | _ + 2 => by simpa [strG, ByteArray.size] using h2
theorem decH_len (n : Int) : (decH n).length ≤ 2 := by
  unfold decH
  split <;> simp
theorem line_len {r : Rg} (h1 : r.ps.length ≤ 100000000) (h2 : r.qs.length ≤ 100000000) : (lineG r).length ≤ 200000020 := by
  have h3 := decH_len r.f
  have h4 := decH_len r.t
  simp only [lineG, headG, List.length_append, List.length_cons, List.length_nil]
  omega
theorem prt_len {r : Rg} (h1 : r.ps.length ≤ 100000000) (h2 : r.qs.length ≤ 100000000) : ∀ j, (prtG r j).length ≤ 200000020
  | 0 => by simp [prtG]
  | 1 => by
    have h3 := decH_len r.f
    have h4 := decH_len r.t
    simp only [prtG, headG, List.length_append, List.length_cons, List.length_nil]
    omega
  | 2 => by
    have h3 := decH_len r.f
    have h4 := decH_len r.t
    simp only [prtG, headG, List.length_append, List.length_cons, List.length_nil]
    omega
  | _ + 3 => line_len h1 h2
theorem txt_len : ∀ (l : List Rg), (∀ r ∈ l, r.ps.length ≤ 100000000 ∧ r.qs.length ≤ 100000000) → (txtG l).length ≤ l.length * 200000020
  | [], _ => by simp [txtG]
  | e :: l, h => by
    have h1 := line_len (h e (List.mem_cons_self ..)).1 (h e (List.mem_cons_self ..)).2
    have h2 := txt_len l fun r hr => h r (List.mem_cons_of_mem _ hr)
    rw [txtG] at h2 ⊢
    rw [List.flatMap_cons, List.length_append, List.length_cons]
    omega
theorem strs_size (s : ByteArray) : (Lib.strCells s).length = s.size := Lib.strCells_length s
theorem f11 (l : List Rg) (hl : l.length ≤ 32) (hsm : ∀ r ∈ l, r.ps.length ≤ 100000000 ∧ r.qs.length ≤ 100000000) (h34 : ∀ n, PC Tryz.prog 34 [.int .i64 n] (.bool (hostB n)))
    (h35 : ∀ r ∈ l, (hostB r.f && hostB r.t) = true → PC Tryz.prog 35 [r.p] (.tup [.str r.ps, .int .i64 r.pe]))
    (h36 : ∀ r ∈ l, (hostB r.f && hostB r.t) = true → r.pe = 0 → PC Tryz.prog 36 [r.q] (.tup [.str r.qs, .int .i64 r.qe]))
   
    (bk off cap : Nat) (w : World) (hw : W0 w) (hcap : l.length ≤ cap) (hbk : bk < w.heap.size)
    (hc : ∀ (i : Nat) (r : Rg), l[i]? = some r → ∃ (ap : Option Addr) (np cp : Nat) (aq : Option Addr) (nq cq : Nat), w.cell? ⟨bk, off + i * 4, none⟩ = some (.int .i64 r.f) ∧ w.cell? ⟨bk, off + i * 4 + 1, none⟩ = some (.int .i64 r.t) ∧ w.cell? ⟨bk, off + i * 4 + 2, none⟩ = some (.slice ap np cp) ∧ w.cell? ⟨bk, off + i * 4 + 3, none⟩ = some (.slice aq nq cq) ∧ VR no w [] r.p (.slice ap np cp) ∧ VR no w [] r.q (.slice aq nq cq)) :
    Calls Tryz.prog 11 #[.slice (some ⟨bk, off, none⟩) l.length cap] w fun x w' => x = .returned (.tuple #[.string ⟨(fmtG l).1.toArray⟩, .int .i64 (fmtG l).2]) ∧ Below w.heap.size w w' := by
  have h32 : ¬ (32 : Int) < (l.length : Int) := by omega
  go_enter Tryz.func11, Tryz.ntmps11
  go_wp2
  go_loopw [17] (fun i w1 => ∃ k : Nat, k ≤ l.length ∧ i = .int .i64 k ∧ Lib.IsBuilder 73 5 w.heap.size w.heap.size (Lib.byteCells (txtG (l.take k))) w1 ∧ badG (l.take k) = 0 ∧ Below w.heap.size w w1)
    (fun i _ => l.length - (intOf i).toNat)
  case atStart =>
    refine ⟨0, Nat.zero_le _, rfl, .inl ⟨Nat.le_refl _, .slice none 0 0, ?_, ?_, ?_⟩, rfl, ?_⟩
    · exact heap_alloc_new w _
    · exact World.ownsRow_nil _ _ _ _
    · simp [Value.ownBlock]
    · exact (Below.refl _ w).alloc (Nat.le_refl _) _
  case round =>
    obtain ⟨k, hk, rfl, hb, hbad, hbel⟩ := hrel
    have hsz0 : w.heap.size ≤ wr.heap.size := hbel.size
    by_cases hlt : k < l.length
    · have hlt' : (k : Int) < (l.length : Int) := by omega
      obtain ⟨e, hf⟩ : ∃ e, l[k]? = some e := ⟨_, List.getElem?_eq_getElem hlt⟩
      have hmem : e ∈ l := List.mem_of_getElem? hf
      obtain ⟨ap, np, cp, aq, nq, cq, x0, x1, x2, x3, hvp, hvq⟩ := hc k e hf
      have hcell : ∀ j, wr.cell? ⟨bk, j, none⟩ = w.cell? ⟨bk, j, none⟩ := fun j => by simp only [World.cell?, hbel.block bk hbk]
      rw [← hcell] at x0 x1 x2 x3
      clear hcell hc
      have b1 := Bst.start (cs := #[.int .i64 e.f, .int .i64 e.t, .slice ap np cp, .slice aq nq cq]) (t := 60) hbel hb hsz0
      have h34f := h34 e.f
      have h34t := h34 e.t
      cases hbf : hostB e.f
      · rw [hbf] at h34f
        go_wp2_with (go_at_call 34; fail)
        refine (kcB h34f (hw.below b1.bel)).mono ?_
        rintro x w2 ⟨rfl, hb2⟩
        have b2 := b1.step hb2
        clear b1 hb2 x0 x1 x2 x3 hb
        go_wp2
        go_ret2
        rw [fmtG_bad hf hbad (c := 9) (by rw [chkG, hbf]; rfl) (by decide)]
        exact ⟨rfl, b2.bel⟩
      · rw [hbf] at h34f
        cases hbt : hostB e.t
        · rw [hbt] at h34t
          go_wp2_with (go_at_call 34; refine (kcB h34f (hw.below b1.bel)).mono ?_)
          rintro x w2 ⟨rfl, hb2⟩
          have b2 := b1.step hb2
          have d1 := b2.c1
          clear b1 hb2 x0 x1 x2 x3 hb
          go_wp2_with (go_at_call 34; refine (kcB h34t (hw.below b2.bel)).mono ?_)
          rintro x w3 ⟨rfl, hb3⟩
          have b3 := b2.step hb3
          clear b2 hb3 d1
          go_wp2
          go_ret2
          rw [fmtG_bad hf hbad (c := 9) (by rw [chkG, hbf, hbt]; rfl) (by decide)]
          exact ⟨rfl, b3.bel⟩
        · rw [hbt] at h34t
          have hh : (hostB e.f && hostB e.t) = true := by rw [hbf, hbt]; rfl
          go_wp2_with (go_at_call 34; refine (kcB h34f (hw.below b1.bel)).mono ?_)
          rintro x w2 ⟨rfl, hb2⟩
          have b2 := b1.step hb2
          have d1 := b2.c1
          clear b1 hb2 x0 x1 x2 x3 hb
          go_wp2_with (go_at_call 34; refine (kcB h34t (hw.below b2.bel)).mono ?_)
          rintro x w3 ⟨rfl, hb3⟩
          have b3 := b2.step hb3
          clear b2 hb3 d1
          have d2 := b3.c2
          go_wp2_with (go_at_call 35; fail)
          refine (kcT (h35 e hmem hh) (hw.below b3.bel) (vr_low hvp b3.bel)).mono ?_
          rintro x w4 ⟨rfl, hb4⟩
          have b4 := b3.step hb4
          clear b3 hb4 d2
          have d3 := b4.c3
          by_cases hpe : e.pe = 0
          · rw [hpe]
            go_wp2_with (go_at_call 36; fail)
            refine (kcT (h36 e hmem hh hpe) (hw.below b4.bel) (vr_low hvq b4.bel)).mono ?_
            rintro x w5 ⟨rfl, hb5⟩
            have b5 := b4.step hb5
            clear b4 hb5 d3
            by_cases hqe : e.qe = 0
            · rw [hqe]
              have c0 := b5.c0
              have c1 := b5.c1
              have cz := b5.lt
              obtain ⟨sf, hsf, zf, qf⟩ : ∃ sf : ByteArray, ⟨(decH e.f).toArray⟩ = sf ∧ sf.size ≤ 2 ∧ ∀ w, Calls Tryz.prog 37 #[.int .i64 e.f] w fun x w' => x = .returned (.string sf) ∧ w' = w := ⟨_, rfl, decH_size _, fun w => q37 e.f hbf w⟩
              obtain ⟨st, hst, zt, qt⟩ : ∃ st : ByteArray, ⟨(decH e.t).toArray⟩ = st ∧ st.size ≤ 2 ∧ ∀ w, Calls Tryz.prog 37 #[.int .i64 e.t] w fun x w' => x = .returned (.string st) ∧ w' = w := ⟨_, rfl, decH_size _, fun w => q37 e.t hbt w⟩
              have i3 : Sm sf := ⟨by omega⟩
              have i4 : Sm st := ⟨by omega⟩
              go_wp2
              go_region_held3 (fun w' => w'.cell? ⟨wr.heap.size, 0, none⟩ = some (.int .i64 e.f) ∧ w'.cell? ⟨wr.heap.size, 1, none⟩ = some (.int .i64 e.t)) (go_keep) (first | (go_at_call 37; refine (qf _).mono ?_; rintro x w' ⟨rfl, rfl⟩) | (go_at_call 37; refine (qt _).mono ?_; rintro x w' ⟨rfl, rfl⟩))
              obtain ⟨x, hx⟩ : ∃ x, x = w5.heap.size := ⟨_, rfl⟩
              obtain ⟨W6, hW6⟩ : ∃ W6, W6 = (w5.alloc (Obj.cells #[Value.string ({ data := #[114, 117, 108, 101, 32] } ++ sf ++ { data := #[32] } ++ st), Value.string { data := e.ps.toArray }, Value.string { data := e.qs.toArray }] 9)).drew := ⟨_, rfl⟩
              have hbx : W6.heap[x]? = some (.cells #[Value.string (strG e sf st 0), Value.string (strG e sf st 1), Value.string (strG e sf st 2)] 9 (0, 0)) := by rw [hW6, hx]; exact heap_alloc_new w5 _
              have hbl6 : Below w.heap.size w W6 := by rw [hW6]; exact (b5.bel.alloc b5.le _).drew
              have hB6 : Lib.IsBuilder 73 5 w.heap.size w.heap.size (Lib.byteCells (txtG (l.take k))) W6 := by rw [hW6]; exact isb_keep b5.bld fun j hj => heap_alloc_old w5 _ hj
              have hxw : x ≠ w.heap.size := by have := b5.le; have := b5.lt; omega
              rw [← hx, ← hW6]
              clear b5 c0 c1 cz hW6 hx qf qt i3 i4
              obtain ⟨hs1, hs2⟩ := hsm e hmem
              have htl := txt_len (l.take k) fun r hr => hsm r (List.mem_of_mem_take hr)
              have htk : (l.take k).length ≤ 32 := by rw [List.length_take]; omega
              go_wp2
              go_loopw [62] (fun i w1 => ∃ j : Nat, j ≤ 3 ∧ i = .int .i64 j ∧ Lib.IsBuilder 73 5 w.heap.size w.heap.size (Lib.byteCells (txtG (l.take k) ++ prtG e j)) w1 ∧ Below w.heap.size w w1 ∧ w1.heap[x]? = some (.cells #[Value.string (strG e sf st 0), Value.string (strG e sf st 1), Value.string (strG e sf st 2)] 9 (0, 0)))
                (fun i _ => 3 - (intOf i).toNat)
              case atStart => exact ⟨0, by omega, rfl, by rw [prtG, List.append_nil]; exact hB6, hbl6, hbx⟩
              case round =>
                obtain ⟨j, hj, rfl, hbj, hblj, hxj⟩ := hrel
                have hszj : w.heap.size ≤ wr.heap.size := hblj.size
                have hpl := prt_len hs1 hs2 j
                have hsl := str_size (r := e) zf zt hs1 hs2 j
                by_cases hj3 : j < 3
                · have hj3' : (j : Int) < 3 := by omega
                  have cj : wr.cell? ⟨x, j, none⟩ = some (.string (strG e sf st j)) := by
                    rw [Lib.cell_of_heap hxj]
                    match j, hj3 with
                    | 0, _ => rfl
                    | 1, _ => rfl
                    | 2, _ => rfl
                  go_wp2_with (go_at_call 38; fail)
                  refine (wrS w.heap.size w.heap.size _ (strG e sf st j) wr hbj (by rw [Lib.byteCells_length, List.length_append]; omega) hszj).mono ?_
                  rintro y w7 ⟨rfl, hB7, hb7, hf7⟩
                  rw [Lib.strCells_eq, ← Lib.byteCells_append] at hB7
                  have hx7 := hf7 x _ 9 hxw (by decide) hxj
                  have hbl7 := hblj.trans hb7
                  have hs7 := hbl7.size
                  have hq : ((strG e sf st j).data.toList).length = (strG e sf st j).size := Array.length_toList
                  clear cj hbj hxj hf7 hb7
                  go_wp2_with (go_at_call 39; fail)
                  refine (wrB w.heap.size w.heap.size _ 10 w7 (.inr hB7) (by rw [Lib.byteCells_length, List.length_append, List.length_append, hq]; omega) hs7).mono ?_
                  rintro y w8 ⟨rfl, hB8, hb8, hf8⟩
                  have hx8 := hf8 x _ 9 hxw (by decide) hx7
                  have hbl8 := hbl7.trans hb8
                  have hst8 := prt_step hsf hst hj3
                  have hB9 : Lib.IsBuilder 73 5 w.heap.size w.heap.size (Lib.byteCells (txtG (l.take k) ++ prtG e (j + 1))) w8 := by
                    rw [hst8, ← List.append_assoc, ← List.append_assoc, Lib.byteCells_append]
                    exact .inr (by simpa [Lib.byteCells] using hB8)
                  clear hB7 hB8 hx7 hbl7 hf8 hb8
                  go_wp2
                  go_roundw
                  case rel => exact ⟨j + 1, by omega, by go_num, hB9, hbl8, hx8⟩
                  case measure => simp [intOf]; omega
                · have hj4 : j = 3 := by omega
                  subst hj4
                  have hst := txtG_step hf
                  have hbad2 := badG_step hf hbad (by rw [chkG, if_pos hh, if_pos hpe, hqe])
                  have hB9 : Lib.IsBuilder 73 5 w.heap.size w.heap.size (Lib.byteCells (txtG (l.take (k + 1)))) wr := by
                    rw [hst]; exact hbj
                  clear hbj hxj
                  go_wp2
                  go_roundw
                  case rel => exact ⟨k + 1, by omega, by go_num, hB9, hbad2, hblj⟩
                  case measure => simp [intOf]; omega
            · have hqe' : (e.qe == 0) = false := by simpa using hqe
              go_wp2
              go_ret2
              rw [fmtG_bad hf hbad (c := e.qe) (by rw [chkG, if_pos hh, if_pos hpe]) hqe]
              exact ⟨rfl, b5.bel⟩
          · have hpe' : (e.pe == 0) = false := by simpa using hpe
            go_wp2
            go_ret2
            rw [fmtG_bad hf hbad (c := e.pe) (by rw [chkG, if_pos hh, if_neg hpe]) hpe]
            exact ⟨rfl, b4.bel⟩
    · have hkl : k = l.length := by omega
      subst hkl
      rw [List.take_length] at hb hbad
      have hlb := Lib.byteCells_length (txtG l)
      go_wp2_with (go_at_call 40; fail)
      refine (Tryz.Builder_Len w.heap.size w.heap.size _ wr hb).mono ?_
      rintro x w2 ⟨rfl, rfl⟩
      go_wp2_with (go_at_call 41; fail)
      · have h16 : (16384 : Int) < ((txtG l).length : Int) := by assumption
        have hfm : fmtG l = ([], 4) := by rw [fmtG, if_neg (by simpa using hbad), if_pos (by omega)]
        go_ret2
        rw [hfm]
        exact ⟨rfl, hbel⟩
      · have h16 : ((txtG l).length : Int) ≤ 16384 := by assumption
        have hfm : fmtG l = (txtG l, 0) := by rw [fmtG, if_neg (by simpa using hbad), if_neg (by omega)]
        refine (Tryz.Builder_String_any w.heap.size w.heap.size (txtG l) w2 hb hsz0).mono ?_
        rintro x w3 ⟨rfl, hb3⟩
        go_wp2
        go_ret2
        rw [hfm]
        exact ⟨rfl, hbel.trans hb3⟩
theorem f11nil (ao : Option Addr) (w : World) : Calls Tryz.prog 11 #[.slice ao 0 0] w fun x w' => x = .returned (.tuple #[.string ⟨#[]⟩, .int .i64 0]) ∧ Below w.heap.size w w' := by
  go_enter Tryz.func11, Tryz.ntmps11
  go_wp2
  go_loopw [17] (fun i w1 => i = .int .i64 0 ∧ Lib.IsBuilder 73 5 w.heap.size w.heap.size (Lib.byteCells []) w1 ∧ Below w.heap.size w w1)
    (fun i _ => 1 - (intOf i).toNat)
  case atStart =>
    refine ⟨rfl, .inl ⟨Nat.le_refl _, .slice none 0 0, ?_, ?_, ?_⟩, ?_⟩
    · exact heap_alloc_new w _
    · exact World.ownsRow_nil _ _ _ _
    · simp [Value.ownBlock]
    · exact (Below.refl _ w).alloc (Nat.le_refl _) _
  case round =>
    obtain ⟨rfl, hb, hbel⟩ := hrel
    go_wp2_with (go_at_call 40; fail)
    refine (Tryz.Builder_Len w.heap.size w.heap.size _ wr hb).mono ?_
    rintro x w2 ⟨rfl, rfl⟩
    have hsz := hbel.size
    go_wp2_with (go_at_call 41; fail)
    refine (Tryz.Builder_String_any w.heap.size w.heap.size [] w2 hb hsz).mono ?_
    rintro x w3 ⟨rfl, hb3⟩
    go_wp2
    go_ret2
    exact ⟨rfl, hbel.trans hb3⟩
def isSl : V → Bool
  | .sl _ _ _ => true
  | _ => false
theorem VR_sl {own : Nat → Prop} {w : World} {x : V} {v : Value} (hs : isSl x = true) (h : VR own w [] x v) : ∃ a n c, v = .slice a n c := by
  cases x <;> first | (cases hs; done) | skip
  simp only [VR] at h
  rcases h with ⟨a, rfl, _⟩ | ⟨_, b, off, cap, l, rfl, _⟩
  · exact ⟨_, _, _, rfl⟩
  · exact ⟨_, _, _, rfl⟩
theorem flatG_get : ∀ {l : List Rg} {i : Nat} {e : Rg}, l[i]? = some e → (l.flatMap encG)[i * 4]? = some (.int .i64 e.f) ∧ (l.flatMap encG)[i * 4 + 1]? = some (.int .i64 e.t) ∧ (l.flatMap encG)[i * 4 + 2]? = some e.p ∧ (l.flatMap encG)[i * 4 + 3]? = some e.q
  | [], _, _, h => by simp at h
  | x :: l, 0, e, h => by
    simp at h
    subst h
    exact ⟨rfl, rfl, rfl, rfl⟩
  | x :: l, i + 1, e, h => by
    rw [List.getElem?_cons_succ] at h
    have := flatG_get h
    rw [List.flatMap_cons, show (i + 1) * 4 = i * 4 + 4 by omega]
    exact this
theorem pc11 (l : List Rg) (hl : l.length ≤ 32) (hsm : ∀ r ∈ l, r.ps.length ≤ 100000000 ∧ r.qs.length ≤ 100000000) (hbl : belAll 0 (l.flatMap encG) = true) (hs : ∀ r ∈ l, isSl r.p = true ∧ isSl r.q = true)
    (h34 : ∀ n, PC Tryz.prog 34 [.int .i64 n] (.bool (hostB n)))
    (h35 : ∀ r ∈ l, (hostB r.f && hostB r.t) = true → PC Tryz.prog 35 [r.p] (.tup [.str r.ps, .int .i64 r.pe]))
    (h36 : ∀ r ∈ l, (hostB r.f && hostB r.t) = true → r.pe = 0 → PC Tryz.prog 36 [r.q] (.tup [.str r.qs, .int .i64 r.qe])) :
    PC Tryz.prog 11 [slG l] (.tup [.str (fmtG l).1, .int .i64 (fmtG l).2]) := by
  refine PC.ofCalls Tryz.call11 (by rw [slG, belAll_cons, bel_sl, hbl]; rfl) rfl ?_
  intro own w vals hw h
  match vals, h with
  | [a], h =>
    simp only [VRs, slG, VR, and_true] at h
    rcases h with ⟨a', rfl, h0, _⟩ | ⟨_, bk, off, cap, c, rfl, hcap, hbk, _, hcells, hvs⟩
    · have hl0 : l = [] := List.length_eq_zero_iff.1 h0
      subst hl0
      refine (f11nil a' w).mono ?_
      rintro x w' ⟨rfl, hb⟩
      refine ⟨_, rfl, fun own' => ?_, hb⟩
      simp only [VR]
      exact ⟨_, rfl, by simp only [VRs, VR, and_true]; exact ⟨rfl, rfl⟩⟩
    · refine (f11 l hl hsm h34 h35 h36 bk off cap w hw hcap hbk fun i e he => ?_).mono ?_
      · obtain ⟨g0, g1, g2, g3⟩ := flatG_get he
        have hm := List.mem_of_getElem? he
        have q : ∀ (j : Nat) (x : V), (l.flatMap encG)[j]? = some x → ∃ v, w.cell? ⟨bk, off + j, none⟩ = some v ∧ VR own w [] x v := fun j x hj => by
          obtain ⟨v, hv, hr⟩ := hvs.get hj
          exact ⟨v, hcells j _ hv, hr⟩
        obtain ⟨v0, c0, r0⟩ := q _ _ g0
        obtain ⟨v1, c1, r1⟩ := q _ _ g1
        obtain ⟨v2, c2, r2⟩ := q _ _ g2
        obtain ⟨v3, c3, r3⟩ := q _ _ g3
        simp only [VR] at r0 r1
        subst r0 r1
        obtain ⟨ap, np, cp, rfl⟩ := VR_sl (hs e hm).1 r2
        obtain ⟨aq, nq, cq, rfl⟩ := VR_sl (hs e hm).2 r3
        exact ⟨ap, np, cp, aq, nq, cq, c0, c1, c2, c3, VR.less (fun b hb => hb.elim) _ _ r2, VR.less (fun b hb => hb.elim) _ _ r3⟩
      · rintro x w' ⟨rfl, hb⟩
        refine ⟨_, rfl, fun own' => ?_, hb⟩
        simp only [VR]
        exact ⟨_, rfl, by simp only [VRs, VR, and_true]⟩
  | [], h => simp [VRs] at h
  | _ :: _ :: _, h => simp [VRs] at h
end Go.Proofs.YtlbmbbaefncleaaGreatDoor
