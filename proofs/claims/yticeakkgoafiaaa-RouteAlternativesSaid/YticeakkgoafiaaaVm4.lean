/-
  A library of the claim's own, part 4 of 6: a reckoner over abstract values and objects for the model's code, and that it is sound. No statement of a program stands here.
-/
import Derived.Test.YticeakkgoafiaaaVm3
import Derived.ProofKit
import Derived.DataElems
import Derived.OpenShut
import Derived.Carry
set_option linter.all false
namespace Go.Vm
variable [GlobTab]
def opAt (ops : List Oper) (i : Nat) : Option Oper := ops[i]?
def gvv (v : V) (want : Bool) : Option Bool :=
 match v with
 | .bool b => some (gw want b)
 | .opt g (.bool b) => some (g && gw want b)
 | .opt false .dead => some false
 | _ => none
def gvl (o : Option Oper) (tm : List V) (want : Bool) : Option Bool :=
 match o with
 | some o => match o.dst with
  | some d => gvv (getT tm d) want
  | none => none
 | none => none
theorem gvl_gval {ops : List Oper} {tm : List V} {j : Nat} {want : Bool} : gvl (opAt ops j) tm want = gval ops tm j want := by
 unfold gvl gval opAt gvv
 rfl
def nrm (Q : Exit → S → Prop) : List V → List Ob → Prop := fun t h => Q .normal ⟨t, h⟩
def putK (d : Option Nat) (tm : List V) (K : List V → List Ob → Prop) : V → List Ob → Prop := fun v H => K (putT tm d v) H
def putKt (d : Option Nat) (tm : List V) (K : List V → List Ob → Prop) : V → List Ob → Prop := fun v H => K (putT tm d (.opt true v)) H
def putG (g : Bool) (d : Option Nat) (tm : List V) (H : List Ob) (K : List V → List Ob → Prop) : V → Prop := fun v => K (putT tm d (.opt g v)) H
def putH (d : Option Nat) (tm : List V) (H : List Ob) (K : List V → List Ob → Prop) : V → Prop := fun v => K (putT tm d v) H
def keepK (H : List Ob) (K : V → List Ob → Prop) : V → Prop := fun v => K v H
def nxt (P : Program) (tt : Nat → TI) (cfg : Cfg) (ops rest : List Oper) (K : List V → List Ob → Prop) : List V → List Ob → Prop := fun tm H => evOps P tt cfg ops rest tm H K
def nxtD (P : Program) (tt : Nat → TI) (cfg : Cfg) (rs : List (Nat × Nat)) (ops rest : List Oper) (K : List V → List Ob → Prop) : List V → List Ob → Prop := fun tm H => evOpsD P tt cfg rs ops rest tm H K
def brK (v : V) (A B : S → Prop) (s : S) : Prop := match v with | .bool t => (t = true → A s) ∧ (t = false → B s) | _ => False
def rO (P : Program) (tt : Nat → TI) (cfg : Cfg) (d : Option Nat) (op : Op) (args : List V) (H : List Ob) (K : V → List Ob → Prop) : Prop := runO P tt cfg ⟨d, op, 0, default, #[], none⟩ args H K
def rG (P : Program) (tt : Nat → TI) (cfg : Cfg) (d : Option Nat) (op : Op) (g : Bool) (args : List V) (H : List Ob) (K : V → Prop) : Prop := runG P tt cfg ⟨d, op, 0, default, #[], none⟩ g args H K
def callO (P : Program) (f : V) (args : List V) (H : List Ob) (K : V → List Ob → Prop) : Prop := ∃ v H', ACall P f args H v H' ∧ K v H'
def callI (P : Program) (f : V) (nm : String) (args : List V) (H : List Ob) (K : V → List Ob → Prop) : Prop := ∃ v H', ICall P f nm args H v H' ∧ K v H'
def callX (P : Program) (f : V) (args : List V) (H : List Ob) (K : V → List Ob → Prop) : Prop := ∃ v J, noUn J ∧ (∀ H', H'.length = H.length → Keeps H H' → ACall P f args H' v (H' ++ J)) ∧ K v (H ++ J)
def callG (P : Program) (g : Bool) (f : V) (args : List V) (H : List Ob) (K : V → Prop) : Prop := ∃ v, (g = true → ∀ H', Keeps H H' → ACall P f args H' v H') ∧ K v
structure Lp (P : Program) (c : Code) (Q : Exit → S → Prop) (s : S) : Prop where
 t : T P (.loop c) Q s
def frzK (b : Bool) (a : V) (p : Prop) : Prop := frz b a ∧ p
def frzS (l : List Nat) (b : Bool) (a : V) (p : Prop) : Prop := ksK (some l) b a ∧ p
def frzC (ks : Option (List Nat)) (b : Bool) (a : V) (p : Prop) : Prop := ksK ks b a ∧ p
theorem frzC_n {b : Bool} {a : V} {p : Prop} : frzC none b a p = frzK b a p := rfl
theorem frzC_s {l : List Nat} {b : Bool} {a : V} {p : Prop} : frzC (some l) b a p = frzS l b a p := rfl
theorem frzS_p {l : List Nat} {id ver off : Nat} {p : Prop} : frzS l false (.ptr id ver off) p = (memN l (some id) = true ∧ p) := rfl
theorem frzS_f {l : List Nat} {b : Bool} {cs : List V} {p : Prop} : frzS l b (.fp cs) p = p := by cases b <;> simp [frzS, ksK, frz]
@[congr] theorem frzC_cg {ks ks' : Option (List Nat)} {b b' : Bool} {a a' : V} {p : Prop} (h0 : ks = ks') (h : b = b') (h2 : a = a') : frzC ks b a p = frzC ks' b' a' p := by rw [h0, h, h2]
@[congr] theorem frzS_cg {l : List Nat} {b b' : Bool} {a a' : V} {p : Prop} (h : b = b') (h2 : a = a') : frzS l b a p = frzS l b' a' p := by rw [h, h2]
theorem frzK_f {a : V} {p : Prop} : frzK false a p = p := by simp [frzK, frz]
theorem frzK_t {cs : List V} {p : Prop} : frzK true (.fp cs) p = p := by simp [frzK, frz]
@[congr] theorem frzK_cg {b b' : Bool} {a a' : V} {p : Prop} (h : b = b') (h2 : a = a') : frzK b a p = frzK b' a' p := by rw [h, h2]
def frk (P : Program) (tt : Nat → TI) (cfg : Cfg) (d : Option Nat) (op : Op) (g e : Bool) (args : List V) (tm : List V) (H : List Ob) (K : List V → List Ob → Prop) : Prop :=
 match e with
 | false => (g = true → rG P tt cfg d op true args H (putG true d tm H K)) ∧ (g = false → K (putT tm d (.opt false .dead)) H)
 | true => (g = true → rO P tt cfg d op args H (putKt d tm K)) ∧ (g = false → K (putT tm d (.opt false .dead)) H)
def grd (P : Program) (tt : Nat → TI) (cfg : Cfg) (d : Option Nat) (op : Op) (g : Option Bool) (e : Bool) (args : List V) (tm : List V) (H : List Ob) (K : List V → List Ob → Prop) : Prop :=
 match g with
 | none => False
 | some g => frk P tt cfg d op g e args tm H K
def rsc (b : Bool) (d : Option Nat) (n : Nat) (r : List Oper) : List (Nat × Nat) := match b, d with | true, some d => (d, n) :: resv r (n + 1) | _, _ => resv r n
def ubc (b : Bool) (d : Option Nat) (r : List Oper) : List Ob := match b, d with | true, some _ => .unborn :: unb r | _, _ => unb r
def a2 (op : Op) (d : Option Nat) : Bool := isA2 ⟨d, op, 0, default, #[], none⟩
def pk2 (g b : Bool) (x y : V) (K : V → Prop) : Prop := (b = true → pkB g x K) ∧ (b = false → pkB g y K)
def br2 (t : Bool) (A B : S → Prop) (s : S) : Prop := (t = true → A s) ∧ (t = false → B s)
def rX (P : Program) (tt : Nat → TI) (cfg : Cfg) (rs : List (Nat × Nat)) (d : Option Nat) (op : Op) (args : List V) (H : List Ob) (K : V → List Ob → Prop) : Prop := runX P tt cfg rs ⟨d, op, 0, default, #[], none⟩ args H K
def rXv (P : Program) (b : Bool) (f : V) (vs : List V) (H : List Ob) (ks : Option (List Nat)) (K : V → List Ob → Prop) : Prop :=
 match b with
 | false => optSide true (f :: vs) (callX P f.st (vs.map V.st) H K)
 | true => optSide true (f :: vs) (callO P f.st (vs.map V.st) H (keepE ks H K))
def rsK (o : Option Nat) (H : List Ob) (K : Nat → Prop) : Prop := match o with | some i => isUn (getO H i) ∧ K i | none => False
def frkD (P : Program) (tt : Nat → TI) (cfg : Cfg) (rs : List (Nat × Nat)) (d : Option Nat) (op : Op) (g e : Bool) (args : List V) (tm : List V) (H : List Ob) (K : List V → List Ob → Prop) : Prop :=
 match e with
 | false => (g = true → rG P tt cfg d op true args H (putG true d tm H K)) ∧ (g = false → K (putT tm d (.opt false .dead)) H)
 | true => (g = true → rX P tt cfg rs d op args H (putKt d tm K)) ∧ (g = false → K (putT tm d (.opt false .dead)) H)
def ung (P : Program) (tt : Nat → TI) (cfg : Cfg) (rs : List (Nat × Nat)) (d : Option Nat) (op : Op) (e : Bool) (args : List V) (tm : List V) (H : List Ob) (K : List V → List Ob → Prop) : Prop :=
 match e with
 | false => rG P tt cfg d op true args H (putH d tm H K)
 | true => rX P tt cfg rs d op args H (putK d tm K)
def grdD (P : Program) (tt : Nat → TI) (cfg : Cfg) (rs : List (Nat × Nat)) (d : Option Nat) (op : Op) (g : Option Bool) (e : Bool) (args : List V) (tm : List V) (H : List Ob) (K : List V → List Ob → Prop) : Prop :=
 match g with
 | none => False
 | some g => frkD P tt cfg rs d op g e args tm H K
section
variable {P : Program} {tt : Nat → TI} {cfg : Cfg} {rs : List (Nat × Nat)} {H : List Ob} {Q : Exit → S → Prop} {s : S} {ops rest : List Oper} {d : Option Nat} {ty : Nat} {ps : String} {af : Array Edge} {tm : List V}
 {K : List V → List Ob → Prop} {KV : V → List Ob → Prop} {KG : V → Prop} {g : Bool} {args : List V}
theorem nrm_ap {t : List V} {h : List Ob} : nrm Q t h = Q .normal ⟨t, h⟩ := rfl
theorem putK_ap {v : V} : putK d tm K v H = K (putT tm d v) H := rfl
theorem putKt_ap {v : V} : putKt d tm K v H = K (putT tm d (.opt true v)) H := rfl
theorem putG_ap {v : V} : putG g d tm H K v = K (putT tm d (.opt g v)) H := rfl
theorem putH_ap {v : V} : putH d tm H K v = K (putT tm d v) H := rfl
theorem keepK_ap {v : V} : keepK H KV v = KV v H := rfl
theorem nxt_ap : nxt P tt cfg ops rest K tm H = evOps P tt cfg ops rest tm H K := rfl
theorem nxtD_ap : nxtD P tt cfg rs ops rest K tm H = evOpsD P tt cfg rs ops rest tm H K := rfl
theorem brK_bool {t : Bool} {A B : S → Prop} : brK (.bool t) A B s = br2 t A B s := rfl
theorem capI : ((capMax : Nat) : Int) = 68719476736 := rfl
theorem br2_true {A B : S → Prop} : br2 true A B s = A s := by simp [br2]
theorem br2_false {A B : S → Prop} : br2 false A B s = B s := by simp [br2]
theorem br2_open {t : Bool} {A B : S → Prop} : br2 t A B s = ((t = true → A s) ∧ (t = false → B s)) := rfl
theorem ev_skip : ev P tt cfg .skip Q s = Q .normal s := rfl
theorem ev_region {i : Nat} {l : List Oper} : ev P tt cfg (.region i l.toArray false) Q s = evOps P tt cfg l l s.tm s.hp (nrm Q) := rfl
def drw (P : Program) (tt : Nat → TI) (cfg : Cfg) (l : List Oper) (rs : List (Nat × Nat)) (o : Option (List Nat)) (tm : List V) (H : List Ob) (K : List V → List Ob → Prop) : Prop :=
 match o with
 | none => drawOK tt cfg l = true ∧ evOpsD P tt cfg rs l l tm H K
 | some L => drawOKL tt cfg l L = true ∧ evI P tt cfg rs l L tm H K
def nxtI (P : Program) (tt : Nat → TI) (cfg : Cfg) (rs : List (Nat × Nat)) (ops : List Oper) (r : List Nat) (K : List V → List Ob → Prop) : List V → List Ob → Prop := fun tm H => evI P tt cfg rs ops r tm H K
def evIo (P : Program) (tt : Nat → TI) (cfg : Cfg) (rs : List (Nat × Nat)) (ops : List Oper) (o : Option Oper) (r : List Nat) (tm : List V) (H : List Ob) (K : List V → List Ob → Prop) : Prop :=
 match o with
 | some o => evOpD P tt cfg rs ops o tm H (nxtI P tt cfg rs ops r K)
 | none => False
theorem ev_draw {i : Nat} {l : List Oper} : ev P tt cfg (.region i l.toArray true) Q s = drw P tt cfg l (resv l s.hp.length) (ordOf cfg.ord i) s.tm (s.hp ++ unb l) (nrm Q) := by
 unfold ev drw
 simp only
 cases ordOf cfg.ord i <;> rfl
theorem drw_none {l : List Oper} (h : drawOK tt cfg l = true) : drw P tt cfg l rs none tm H K = evOpsD P tt cfg rs l l tm H K := by simp [drw, h]
theorem drw_some {l : List Oper} {L : List Nat} (h : drawOKL tt cfg l L = true) : drw P tt cfg l rs (some L) tm H K = evI P tt cfg rs l L tm H K := by simp [drw, h]
theorem resv_nil {n : Nat} : resv [] n = [] := rfl
theorem resv_cons {o : Oper} {r : List Oper} {n : Nat} : resv (o :: r) n = rsc (isA2 o) o.dst n r := by
 unfold rsc
 cases h1 : isA2 o <;> cases h2 : o.dst <;> simp [resv, h1, h2]
theorem rsc_t {d n : Nat} {r : List Oper} : rsc true (some d) n r = (d, n) :: resv r (n + 1) := rfl
theorem rsc_f {d : Option Nat} {n : Nat} {r : List Oper} : rsc false d n r = resv r n := rfl
theorem unb_nil : unb [] = [] := rfl
theorem unb_cons {o : Oper} {r : List Oper} : unb (o :: r) = ubc (isA2 o) o.dst r := by
 unfold ubc
 cases h1 : isA2 o <;> cases h2 : o.dst <;> simp [unb, h1, h2]
theorem ubc_t {d : Nat} {r : List Oper} : ubc true (some d) r = .unborn :: unb r := rfl
theorem ubc_f {d : Option Nat} {r : List Oper} : ubc false d r = unb r := rfl
theorem look_s {d i n : Nat} {r : List (Nat × Nat)} : look ((d, i) :: r) (some n) = if d = n then some i else look r (some n) := by
 rw [show look ((d, i) :: r) (some n) = (match Nat.beq d n with | true => some i | false => look r (some n)) from rfl]
 by_cases h : d = n
 ·subst h; simp
 ·rw [if_neg h]
  have : Nat.beq d n = false := by
   cases hb : Nat.beq d n with
   | false => rfl
   | true => exact absurd (Nat.eq_of_beq_eq_true hb) h
  rw [this]
theorem rsK_some {i : Nat} {k : Nat → Prop} : rsK (some i) H k = (isUn (getO H i) ∧ k i) := rfl
theorem isUn_un : isUn .unborn = True := rfl
theorem rX_alloc {e n : Nat} : rX P tt cfg rs (some n) (.alloc e) args H KV = rsK (look rs (some n)) H (fun i => optSide true args ((opR tt cfg.lv (some n) (.alloc e) (args.map V.st) true i H).then KV)) := by
 unfold rX runX runA rsK
 cases look rs (some n) <;> rfl
theorem rX_box {e n : Nat} {x : Operand} : rX P tt cfg rs (some n) (.box e x) args H KV = rsK (look rs (some n)) H (fun i => optSide true args ((opR tt cfg.lv (some n) (.box e x) (args.map V.st) true i H).then KV)) := by
 unfold rX runX runA rsK
 cases look rs (some n) <;> rfl
theorem rX_makeSlice {t n : Nat} {x y : Operand} : rX P tt cfg rs (some n) (.makeSlice t x y) args H KV = rsK (look rs (some n)) H (fun i => optSide true args ((opR tt cfg.lv (some n) (.makeSlice t x y) (args.map V.st) true i H).then KV)) := by
 unfold rX runX runA rsK
 cases look rs (some n) <;> rfl
theorem rX_invoke {fo : Operand} {nm : String} {as : Array Operand} {ats : Array Nat} : rX P tt cfg rs d (.call ⟨.invoke fo nm, as, ats⟩) args H KV = rO P tt cfg d (.call ⟨.invoke fo nm, as, ats⟩) args H KV := rfl
theorem rX_store {t : Nat} {x y : Operand} : rX P tt cfg rs d (.store t x y) args H KV = rO P tt cfg d (.store t x y) args H KV := rfl
def rXb (P : Program) (tt : Nat → TI) (cfg : Cfg) (d : Option Nat) (op : Op) (k : Bool) (args : List V) (H : List Ob) (KV : V → List Ob → Prop) : Prop := match k with | true => rO P tt cfg d op args H (keepE cfg.ks H KV) | false => rO P tt cfg d op args H KV
theorem rXb_f {op : Op} : rXb P tt cfg d op false args H KV = rO P tt cfg d op args H KV := rfl
theorem rXb_t {op : Op} : rXb P tt cfg d op true args H KV = rO P tt cfg d op args H (keepE cfg.ks H KV) := rfl
theorem rX_append {as : Array Operand} {ats : Array Nat} : rX P tt cfg rs d (.call ⟨.builtin .append, as, ats⟩) args H KV = rXb P tt cfg d (.call ⟨.builtin .append, as, ats⟩) (memN cfg.em d) args H KV := by
 unfold rX runX rXb isC isQ isK
 simp only [isA2]
 cases memN cfg.em d <;> rfl
theorem rX_cap {as : Array Operand} {ats : Array Nat} : rX P tt cfg rs d (.call ⟨.builtin .cap, as, ats⟩) args H KV = rO P tt cfg d (.call ⟨.builtin .cap, as, ats⟩) args H KV := rfl
theorem rX_clear {as : Array Operand} {ats : Array Nat} : rX P tt cfg rs d (.call ⟨.builtin .clear, as, ats⟩) args H KV = rO P tt cfg d (.call ⟨.builtin .clear, as, ats⟩) args H KV := rfl
theorem rX_close {as : Array Operand} {ats : Array Nat} : rX P tt cfg rs d (.call ⟨.builtin .close, as, ats⟩) args H KV = rO P tt cfg d (.call ⟨.builtin .close, as, ats⟩) args H KV := rfl
theorem rX_complex {as : Array Operand} {ats : Array Nat} : rX P tt cfg rs d (.call ⟨.builtin .complex, as, ats⟩) args H KV = rO P tt cfg d (.call ⟨.builtin .complex, as, ats⟩) args H KV := rfl
theorem rX_copy {as : Array Operand} {ats : Array Nat} : rX P tt cfg rs d (.call ⟨.builtin .copy, as, ats⟩) args H KV = rO P tt cfg d (.call ⟨.builtin .copy, as, ats⟩) args H KV := rfl
theorem rX_delete {as : Array Operand} {ats : Array Nat} : rX P tt cfg rs d (.call ⟨.builtin .delete, as, ats⟩) args H KV = rO P tt cfg d (.call ⟨.builtin .delete, as, ats⟩) args H KV := rfl
theorem rX_imag {as : Array Operand} {ats : Array Nat} : rX P tt cfg rs d (.call ⟨.builtin .imag, as, ats⟩) args H KV = rO P tt cfg d (.call ⟨.builtin .imag, as, ats⟩) args H KV := rfl
theorem rX_len {as : Array Operand} {ats : Array Nat} : rX P tt cfg rs d (.call ⟨.builtin .len, as, ats⟩) args H KV = rO P tt cfg d (.call ⟨.builtin .len, as, ats⟩) args H KV := rfl
theorem rX_make {as : Array Operand} {ats : Array Nat} : rX P tt cfg rs d (.call ⟨.builtin .make, as, ats⟩) args H KV = rO P tt cfg d (.call ⟨.builtin .make, as, ats⟩) args H KV := rfl
theorem rX_max {as : Array Operand} {ats : Array Nat} : rX P tt cfg rs d (.call ⟨.builtin .max, as, ats⟩) args H KV = rO P tt cfg d (.call ⟨.builtin .max, as, ats⟩) args H KV := rfl
theorem rX_min {as : Array Operand} {ats : Array Nat} : rX P tt cfg rs d (.call ⟨.builtin .min, as, ats⟩) args H KV = rO P tt cfg d (.call ⟨.builtin .min, as, ats⟩) args H KV := rfl
theorem rX_new {as : Array Operand} {ats : Array Nat} : rX P tt cfg rs d (.call ⟨.builtin .new, as, ats⟩) args H KV = rO P tt cfg d (.call ⟨.builtin .new, as, ats⟩) args H KV := rfl
theorem rX_panic {as : Array Operand} {ats : Array Nat} : rX P tt cfg rs d (.call ⟨.builtin .panic, as, ats⟩) args H KV = rO P tt cfg d (.call ⟨.builtin .panic, as, ats⟩) args H KV := rfl
theorem rX_print {as : Array Operand} {ats : Array Nat} : rX P tt cfg rs d (.call ⟨.builtin .print, as, ats⟩) args H KV = rO P tt cfg d (.call ⟨.builtin .print, as, ats⟩) args H KV := rfl
theorem rX_println {as : Array Operand} {ats : Array Nat} : rX P tt cfg rs d (.call ⟨.builtin .println, as, ats⟩) args H KV = rO P tt cfg d (.call ⟨.builtin .println, as, ats⟩) args H KV := rfl
theorem rX_real {as : Array Operand} {ats : Array Nat} : rX P tt cfg rs d (.call ⟨.builtin .real, as, ats⟩) args H KV = rO P tt cfg d (.call ⟨.builtin .real, as, ats⟩) args H KV := rfl
theorem rX_recover {as : Array Operand} {ats : Array Nat} : rX P tt cfg rs d (.call ⟨.builtin .recover, as, ats⟩) args H KV = rO P tt cfg d (.call ⟨.builtin .recover, as, ats⟩) args H KV := rfl
theorem rX_value {fo : Operand} {as : Array Operand} {ats : Array Nat} {f : V} {vs : List V} : rX P tt cfg rs d (.call ⟨.value fo, as, ats⟩) (f :: vs) H KV = rXv P (memN cfg.em d) f vs H cfg.ks KV := by
 unfold rX runX rXv isC isQ isK
 simp only [isA2]
 cases memN cfg.em d <;> rfl
theorem rXv_f {f : V} {vs : List V} {ks : Option (List Nat)} : rXv P false f vs H ks KV = optSide true (f :: vs) (callX P f.st (vs.map V.st) H KV) := rfl
theorem rXv_t {f : V} {vs : List V} {ks : Option (List Nat)} : rXv P true f vs H ks KV = optSide true (f :: vs) (callO P f.st (vs.map V.st) H (keepE ks H KV)) := rfl
theorem keepE_ap {H' : List Ob} {v : V} {ks : Option (List Nat)} : keepE ks H KV v H' = (KeepsC ks H H' ∧ KV v H') := rfl
theorem keepsC_n {H' : List Ob} : KeepsC none H H' = Keeps H H' := rfl
theorem rX_mapUpdate {t : Nat} {x y z : Operand} : rX P tt cfg rs d (.mapUpdate t x y z) args H KV = rO P tt cfg d (.mapUpdate t x y z) args H KV := rfl
theorem rX_insert {t : Nat} {x y z : Operand} : rX P tt cfg rs d (.insert t x y z) args H KV = rO P tt cfg d (.insert t x y z) args H KV := rfl
theorem rX_makeMap {t : Nat} {x : Option Operand} : rX P tt cfg rs d (.makeMap t x) args H KV = rO P tt cfg d (.makeMap t x) args H KV := rfl
theorem a2_mapUpdate {t : Nat} {x y z : Operand} : a2 (.mapUpdate t x y z) d = false := rfl
theorem a2_insert {t : Nat} {x y z : Operand} : a2 (.insert t x y z) d = false := rfl
theorem a2_makeMap {t : Nat} {x : Option Operand} : a2 (.makeMap t x) d = false := rfl
theorem a2_lookup {t : Nat} {x y : Operand} {ok : Bool} : a2 (.lookup t x y ok) d = false := rfl
theorem rX_buildSlice {t n : Nat} {l : Array (Nat × Operand)} : rX P tt cfg rs d (.buildSlice t n l) args H KV = rO P tt cfg d (.buildSlice t n l) args H KV := rfl
theorem isA2_mk {op : Op} {x : Option (Nat × Bool)} : isA2 ⟨d, op, ty, ps, af, x⟩ = a2 op d := rfl
theorem a2_alloc {e n : Nat} : a2 (.alloc e) (some n) = true := rfl
theorem a2_box {e n : Nat} {x : Operand} : a2 (.box e x) (some n) = true := rfl
theorem a2_makeSlice {t n : Nat} {x y : Operand} : a2 (.makeSlice t x y) (some n) = true := rfl
theorem a2_move {x : Operand} : a2 (.move x) d = false := rfl
theorem a2_assign {x : Operand} : a2 (.assign x) d = false := rfl
theorem a2_load {t : Nat} {x : Operand} : a2 (.load t x) d = false := rfl
theorem a2_store {t : Nat} {x y : Operand} : a2 (.store t x y) d = false := rfl
theorem a2_nilCheck {x : Operand} : a2 (.nilCheck x) d = false := rfl
theorem a2_binOp {op : BinOp} {t r : Nat} {x y : Operand} : a2 (.binOp op t x y r) d = false := rfl
theorem a2_unOp {op : UnOp} {t : Nat} {x : Operand} : a2 (.unOp op t x) d = false := rfl
theorem a2_convert {s t : Nat} {x : Operand} : a2 (.convert s t x) d = false := rfl
theorem a2_makeInterface {t : Nat} {x : Operand} : a2 (.makeInterface t x) d = false := rfl
theorem a2_fieldAddr {t f : Nat} {x : Operand} : a2 (.fieldAddr t x f) d = false := rfl
theorem a2_field {t f : Nat} {x : Operand} : a2 (.field t x f) d = false := rfl
theorem a2_indexAddr {t : Nat} {x y : Operand} : a2 (.indexAddr t x y) d = false := rfl
theorem a2_index {t : Nat} {x y : Operand} : a2 (.index t x y) d = false := rfl
theorem a2_extract {x : Operand} {i : Nat} : a2 (.extract x i) d = false := rfl
theorem a2_typeAssert {x : Operand} {s t : Nat} {ok : Bool} : a2 (.typeAssert x s t ok) d = false := rfl
theorem a2_pick {x y z : Operand} : a2 (.pick x y z) d = false := rfl
theorem a2_build {t : Nat} {l : Array (Nat × Operand)} : a2 (.build t l) d = false := rfl
theorem a2_buildSlice {t n : Nat} {l : Array (Nat × Operand)} : a2 (.buildSlice t n l) d = false := rfl
theorem a2_makeFunc {f : Fn} {a b : Array Operand} : a2 (.makeFunc f a b) d = false := rfl
theorem a2_slice {t : Nat} {x : Operand} {a b c : Option Operand} : a2 (.slice t x a b c) d = false := rfl
theorem a2_call {c : Call} : a2 (.call c) d = false := rfl
theorem evI_nil : evI P tt cfg rs ops [] tm H K = K tm H := rfl
theorem evI_cons {i : Nat} {r : List Nat} : evI P tt cfg rs ops (i :: r) tm H K = evIo P tt cfg rs ops (opAt ops i) r tm H K := rfl
theorem evIo_some {o : Oper} {r : List Nat} : evIo P tt cfg rs ops (some o) r tm H K = evOpD P tt cfg rs ops o tm H (nxtI P tt cfg rs ops r K) := rfl
theorem nxtI_ap {r : List Nat} : nxtI P tt cfg rs ops r K tm H = evI P tt cfg rs ops r tm H K := rfl
theorem ordOf_nil {i : Nat} : ordOf [] i = none := rfl
theorem ordOf_cons {i n : Nat} {L : List Nat} {r : List (Nat × List Nat)} : ordOf ((i, L) :: r) n = if i = n then some L else ordOf r n := by
 rw [show ordOf ((i, L) :: r) n = (match Nat.beq i n with | true => some L | false => ordOf r n) from rfl]
 by_cases h : i = n
 ·subst h; simp
 ·rw [if_neg h]
  have : Nat.beq i n = false := by
   cases hb : Nat.beq i n with
   | false => rfl
   | true => exact absurd (Nat.eq_of_beq_eq_true hb) h
  rw [this]
theorem ev_seq {a b : Code} : ev P tt cfg (.seq a b) Q s = ev P tt cfg a (andThen (ev P tt cfg b Q) Q) s := rfl
theorem ev_cond {c : Operand} {a b : Code} : ev P tt cfg (.cond c a b) Q s = brK (evT s.tm c) (ev P tt cfg a Q) (ev P tt cfg b Q) s := rfl
theorem ev_block {i : Nat} {c : Code} : ev P tt cfg (.block i c) Q s = ev P tt cfg c (inBlk i Q) s := rfl
theorem ev_loop {c : Code} : ev P tt cfg (.loop c) Q s = Lp P c Q s := propext ⟨fun h => ⟨h⟩, fun h => h.t⟩
theorem ev_exit {i : Nat} : ev P tt cfg (.exit i) Q s = Q (.exit i) s := rfl
theorem ev_ret : ev P tt cfg .ret Q s = Q .ret s := rfl
theorem ev_label {l : Nat} : ev P tt cfg (.label l) Q s = Q .normal s := rfl
theorem evOps_nil : evOps P tt cfg ops [] tm H K = K tm H := rfl
theorem evOps_cons {o : Oper} : evOps P tt cfg ops (o :: rest) tm H K = evOp P tt cfg ops o tm H (nxt P tt cfg ops rest K) := rfl
theorem evOpsD_nil : evOpsD P tt cfg rs ops [] tm H K = K tm H := rfl
theorem evOpsD_cons {o : Oper} : evOpsD P tt cfg rs ops (o :: rest) tm H K = evOpD P tt cfg rs ops o tm H (nxtD P tt cfg rs ops rest K) := rfl
theorem evOp_none {op : Op} : evOp P tt cfg ops ⟨d, op, ty, ps, af, none⟩ tm H K = rO P tt cfg d op ((opnds op).map (evT tm)) H (putK d tm K) := rfl
theorem evOp_some {op : Op} {j : Nat} {want : Bool} : evOp P tt cfg ops ⟨d, op, ty, ps, af, some (j, want)⟩ tm H K =
  grd P tt cfg d op (gvl (opAt ops j) tm want) true ((opnds op).map (evT tm)) tm H K := by
 unfold evOp grd
 rw [gvl_gval]
 simp only
 generalize gval ops tm j want = x
 cases x <;> rfl
theorem evOpD_none {op : Op} : evOpD P tt cfg rs ops ⟨d, op, ty, ps, af, none⟩ tm H K = ung P tt cfg rs d op (isE cfg ⟨d, op, ty, ps, af, none⟩) ((opnds op).map (evT tm)) tm H K := by
 unfold evOpD evV ung
 simp only
 cases isE cfg ⟨d, op, ty, ps, af, none⟩ <;> rfl
theorem evOpD_some {op : Op} {j : Nat} {want : Bool} : evOpD P tt cfg rs ops ⟨d, op, ty, ps, af, some (j, want)⟩ tm H K =
  grdD P tt cfg rs d op (gvl (opAt ops j) tm want) (isE cfg ⟨d, op, ty, ps, af, some (j, want)⟩) ((opnds op).map (evT tm)) tm H K := by
 unfold evOpD evV grdD
 rw [gvl_gval]
 simp only
 generalize gval ops tm j want = x
 generalize isE cfg ⟨d, op, ty, ps, af, some (j, want)⟩ = y
 cases x <;> cases y <;> rfl
theorem grd_some {op : Op} {e : Bool} : grd P tt cfg d op (some g) e args tm H K = frk P tt cfg d op g e args tm H K := rfl
theorem frk_tt {op : Op} : frk P tt cfg d op true true args tm H K = rO P tt cfg d op args H (putKt d tm K) := by simp [frk]
theorem frk_tf {op : Op} : frk P tt cfg d op true false args tm H K = rG P tt cfg d op true args H (putG true d tm H K) := by simp [frk]
theorem frk_f {op : Op} {e : Bool} : frk P tt cfg d op false e args tm H K = K (putT tm d (.opt false .dead)) H := by cases e <;> simp [frk]
theorem frk_ot {op : Op} : frk P tt cfg d op g true args tm H K = ((g = true → rO P tt cfg d op args H (putKt d tm K)) ∧ (g = false → K (putT tm d (.opt false .dead)) H)) := rfl
theorem frk_of {op : Op} : frk P tt cfg d op g false args tm H K = ((g = true → rG P tt cfg d op true args H (putG true d tm H K)) ∧ (g = false → K (putT tm d (.opt false .dead)) H)) := rfl
theorem ung_pure {op : Op} : ung P tt cfg rs d op false args tm H K = rG P tt cfg d op true args H (putH d tm H K) := rfl
theorem ung_eff {op : Op} : ung P tt cfg rs d op true args tm H K = rX P tt cfg rs d op args H (putK d tm K) := rfl
theorem grdD_some {op : Op} {e : Bool} : grdD P tt cfg rs d op (some g) e args tm H K = frkD P tt cfg rs d op g e args tm H K := rfl
theorem frkD_tt {op : Op} : frkD P tt cfg rs d op true true args tm H K = rX P tt cfg rs d op args H (putKt d tm K) := by simp [frkD]
theorem frkD_tf {op : Op} : frkD P tt cfg rs d op true false args tm H K = rG P tt cfg d op true args H (putG true d tm H K) := by simp [frkD]
theorem frkD_f {op : Op} {e : Bool} : frkD P tt cfg rs d op false e args tm H K = K (putT tm d (.opt false .dead)) H := by cases e <;> simp [frkD]
theorem frkD_ot {op : Op} : frkD P tt cfg rs d op g true args tm H K = ((g = true → rX P tt cfg rs d op args H (putKt d tm K)) ∧ (g = false → K (putT tm d (.opt false .dead)) H)) := rfl
theorem frkD_of {op : Op} : frkD P tt cfg rs d op g false args tm H K = ((g = true → rG P tt cfg d op true args H (putG true d tm H K)) ∧ (g = false → K (putT tm d (.opt false .dead)) H)) := rfl
theorem rO_move {x : Operand} {a : V} : rO P tt cfg d (.move x) [a] H KV = optSide true [a] ((opR tt cfg.lv d (.move x) [a.st] true H.length H).then KV) := rfl
theorem rG_move {x : Operand} {a : V} : rG P tt cfg d (.move x) g [a] H KG = optSide g [a] ((opR tt cfg.lv d (.move x) [a.st] g H.length H).thenSame H KG) := rfl
theorem rO_assign {x : Operand} {a : V} : rO P tt cfg d (.assign x) [a] H KV = optSide true [a] ((opR tt cfg.lv d (.assign x) [a.st] true H.length H).then KV) := rfl
theorem rG_assign {x : Operand} {a : V} : rG P tt cfg d (.assign x) g [a] H KG = optSide g [a] ((opR tt cfg.lv d (.assign x) [a.st] g H.length H).thenSame H KG) := rfl
theorem rO_alloc {e : Nat} : rO P tt cfg d (.alloc e) [] H KV = optSide true [] ((opR tt cfg.lv d (.alloc e) [] true H.length H).then KV) := rfl
theorem rG_alloc {e : Nat} : rG P tt cfg d (.alloc e) g [] H KG = optSide g [] ((opR tt cfg.lv d (.alloc e) [] g H.length H).thenSame H KG) := rfl
theorem rO_box {e : Nat} {x : Operand} {a : V} : rO P tt cfg d (.box e x) [a] H KV = optSide true [a] ((opR tt cfg.lv d (.box e x) [a.st] true H.length H).then KV) := rfl
theorem rG_box {e : Nat} {x : Operand} {a : V} : rG P tt cfg d (.box e x) g [a] H KG = optSide g [a] ((opR tt cfg.lv d (.box e x) [a.st] g H.length H).thenSame H KG) := rfl
theorem rO_load {t : Nat} {x : Operand} {a : V} : rO P tt cfg d (.load t x) [a] H KV = optSide true [a] ((opR tt cfg.lv d (.load t x) [a.st] true H.length H).then KV) := rfl
theorem rG_load {t : Nat} {x : Operand} {a : V} : rG P tt cfg d (.load t x) g [a] H KG = optSide g [a] (frzC cfg.ks (memN cfg.fl d) a.st ((opR tt cfg.lv d (.load t x) [a.st] g H.length H).thenSame H KG)) := rfl
theorem rO_store {t : Nat} {x : Operand} {y : Operand} {a : V} {b : V} : rO P tt cfg d (.store t x y) [a, b] H KV = optSide true [a, b] ((opR tt cfg.lv d (.store t x y) [a.st, b.st] true H.length H).then KV) := rfl
theorem rG_store {t : Nat} {x : Operand} {y : Operand} {a : V} {b : V} : rG P tt cfg d (.store t x y) g [a, b] H KG = optSide g [a, b] ((opR tt cfg.lv d (.store t x y) [a.st, b.st] g H.length H).thenSame H KG) := rfl
theorem rO_nilCheck {x : Operand} {a : V} : rO P tt cfg d (.nilCheck x) [a] H KV = optSide true [a] ((opR tt cfg.lv d (.nilCheck x) [a.st] true H.length H).then KV) := rfl
theorem rG_nilCheck {x : Operand} {a : V} : rG P tt cfg d (.nilCheck x) g [a] H KG = optSide g [a] ((opR tt cfg.lv d (.nilCheck x) [a.st] g H.length H).thenSame H KG) := rfl
theorem rO_binOp {op : BinOp} {t : Nat} {x : Operand} {y : Operand} {r : Nat} {a : V} {b : V} : rO P tt cfg d (.binOp op t x y r) [a, b] H KV = optSide true [a, b] ((opR tt cfg.lv d (.binOp op t x y r) [a.st, b.st] true H.length H).then KV) := rfl
theorem rG_binOp {op : BinOp} {t : Nat} {x : Operand} {y : Operand} {r : Nat} {a : V} {b : V} : rG P tt cfg d (.binOp op t x y r) g [a, b] H KG = optSide g [a, b] ((opR tt cfg.lv d (.binOp op t x y r) [a.st, b.st] g H.length H).thenSame H KG) := rfl
theorem rO_unOp {op : UnOp} {t : Nat} {x : Operand} {a : V} : rO P tt cfg d (.unOp op t x) [a] H KV = optSide true [a] ((opR tt cfg.lv d (.unOp op t x) [a.st] true H.length H).then KV) := rfl
theorem rG_unOp {op : UnOp} {t : Nat} {x : Operand} {a : V} : rG P tt cfg d (.unOp op t x) g [a] H KG = optSide g [a] ((opR tt cfg.lv d (.unOp op t x) [a.st] g H.length H).thenSame H KG) := rfl
theorem rO_convert {s : Nat} {t : Nat} {x : Operand} {a : V} : rO P tt cfg d (.convert s t x) [a] H KV = optSide true [a] ((opR tt cfg.lv d (.convert s t x) [a.st] true H.length H).then KV) := rfl
theorem rG_convert {s : Nat} {t : Nat} {x : Operand} {a : V} : rG P tt cfg d (.convert s t x) g [a] H KG = optSide g [a] ((opR tt cfg.lv d (.convert s t x) [a.st] g H.length H).thenSame H KG) := rfl
theorem rO_makeInterface {t : Nat} {x : Operand} {a : V} : rO P tt cfg d (.makeInterface t x) [a] H KV = optSide true [a] ((opR tt cfg.lv d (.makeInterface t x) [a.st] true H.length H).then KV) := rfl
theorem rG_makeInterface {t : Nat} {x : Operand} {a : V} : rG P tt cfg d (.makeInterface t x) g [a] H KG = optSide g [a] ((opR tt cfg.lv d (.makeInterface t x) [a.st] g H.length H).thenSame H KG) := rfl
theorem rO_makeSlice {t : Nat} {x : Operand} {y : Operand} {a : V} {b : V} : rO P tt cfg d (.makeSlice t x y) [a, b] H KV = optSide true [a, b] ((opR tt cfg.lv d (.makeSlice t x y) [a.st, b.st] true H.length H).then KV) := rfl
theorem rG_makeSlice {t : Nat} {x : Operand} {y : Operand} {a : V} {b : V} : rG P tt cfg d (.makeSlice t x y) g [a, b] H KG = optSide g [a, b] ((opR tt cfg.lv d (.makeSlice t x y) [a.st, b.st] g H.length H).thenSame H KG) := rfl
theorem rO_fieldAddr {t : Nat} {x : Operand} {f : Nat} {a : V} : rO P tt cfg d (.fieldAddr t x f) [a] H KV = optSide true [a] ((opR tt cfg.lv d (.fieldAddr t x f) [a.st] true H.length H).then KV) := rfl
theorem rG_fieldAddr {t : Nat} {x : Operand} {f : Nat} {a : V} : rG P tt cfg d (.fieldAddr t x f) g [a] H KG = optSide g [a] ((opR tt cfg.lv d (.fieldAddr t x f) [a.st] g H.length H).thenSame H KG) := rfl
theorem rO_field {t : Nat} {x : Operand} {f : Nat} {a : V} : rO P tt cfg d (.field t x f) [a] H KV = optSide true [a] ((opR tt cfg.lv d (.field t x f) [a.st] true H.length H).then KV) := rfl
theorem rG_field {t : Nat} {x : Operand} {f : Nat} {a : V} : rG P tt cfg d (.field t x f) g [a] H KG = optSide g [a] ((opR tt cfg.lv d (.field t x f) [a.st] g H.length H).thenSame H KG) := rfl
theorem rO_indexAddr {t : Nat} {x : Operand} {y : Operand} {a : V} {b : V} : rO P tt cfg d (.indexAddr t x y) [a, b] H KV = optSide true [a, b] ((opR tt cfg.lv d (.indexAddr t x y) [a.st, b.st] true H.length H).then KV) := rfl
theorem rG_indexAddr {t : Nat} {x : Operand} {y : Operand} {a : V} {b : V} : rG P tt cfg d (.indexAddr t x y) g [a, b] H KG = optSide g [a, b] ((opR tt cfg.lv d (.indexAddr t x y) [a.st, b.st] g H.length H).thenSame H KG) := rfl
theorem rO_index {t : Nat} {x : Operand} {y : Operand} {a : V} {b : V} : rO P tt cfg d (.index t x y) [a, b] H KV = optSide true [a, b] ((opR tt cfg.lv d (.index t x y) [a.st, b.st] true H.length H).then KV) := rfl
theorem rG_index {t : Nat} {x : Operand} {y : Operand} {a : V} {b : V} : rG P tt cfg d (.index t x y) g [a, b] H KG = optSide g [a, b] ((opR tt cfg.lv d (.index t x y) [a.st, b.st] g H.length H).thenSame H KG) := rfl
theorem rO_extract {x : Operand} {i : Nat} {a : V} : rO P tt cfg d (.extract x i) [a] H KV = optSide true [a] ((opR tt cfg.lv d (.extract x i) [a.st] true H.length H).then KV) := rfl
theorem rG_extract {x : Operand} {i : Nat} {a : V} : rG P tt cfg d (.extract x i) g [a] H KG = optSide g [a] ((opR tt cfg.lv d (.extract x i) [a.st] g H.length H).thenSame H KG) := rfl
theorem rO_typeAssert {x : Operand} {s : Nat} {t : Nat} {ok : Bool} {a : V} : rO P tt cfg d (.typeAssert x s t ok) [a] H KV = optSide true [a] ((opR tt cfg.lv d (.typeAssert x s t ok) [a.st] true H.length H).then KV) := rfl
theorem rG_typeAssert {x : Operand} {s : Nat} {t : Nat} {ok : Bool} {a : V} : rG P tt cfg d (.typeAssert x s t ok) g [a] H KG = optSide g [a] ((opR tt cfg.lv d (.typeAssert x s t ok) [a.st] g H.length H).thenSame H KG) := rfl
theorem rO_lookup {t : Nat} {x : Operand} {y : Operand} {ok : Bool} {a : V} {b : V} : rO P tt cfg d (.lookup t x y ok) [a, b] H KV = optSide true [a, b] ((opR tt cfg.lv d (.lookup t x y ok) [a.st, b.st] true H.length H).then KV) := rfl
theorem rG_lookup {t : Nat} {x : Operand} {y : Operand} {ok : Bool} {a : V} {b : V} : rG P tt cfg d (.lookup t x y ok) g [a, b] H KG = optSide g [a, b] ((opR tt cfg.lv d (.lookup t x y ok) [a.st, b.st] g H.length H).thenSame H KG) := rfl
theorem rO_mapUpdate {t : Nat} {x : Operand} {y : Operand} {z : Operand} {a : V} {b : V} {c : V} : rO P tt cfg d (.mapUpdate t x y z) [a, b, c] H KV = optSide true [a, b, c] ((opR tt cfg.lv d (.mapUpdate t x y z) [a.st, b.st, c.st] true H.length H).then KV) := rfl
theorem rG_mapUpdate {t : Nat} {x : Operand} {y : Operand} {z : Operand} {a : V} {b : V} {c : V} : rG P tt cfg d (.mapUpdate t x y z) g [a, b, c] H KG = optSide g [a, b, c] ((opR tt cfg.lv d (.mapUpdate t x y z) [a.st, b.st, c.st] g H.length H).thenSame H KG) := rfl
theorem rO_insert {t : Nat} {x : Operand} {y : Operand} {z : Operand} {a : V} {b : V} {c : V} : rO P tt cfg d (.insert t x y z) [a, b, c] H KV = optSide true [a, b, c] ((opR tt cfg.lv d (.insert t x y z) [a.st, b.st, c.st] true H.length H).then KV) := rfl
theorem rG_insert {t : Nat} {x : Operand} {y : Operand} {z : Operand} {a : V} {b : V} {c : V} : rG P tt cfg d (.insert t x y z) g [a, b, c] H KG = optSide g [a, b, c] ((opR tt cfg.lv d (.insert t x y z) [a.st, b.st, c.st] g H.length H).thenSame H KG) := rfl
theorem rO_build {t : Nat} {ps0 : Array (Nat × Operand)} : rO P tt cfg d (.build t ps0) args H KV = optSide true args ((opR tt cfg.lv d (.build t ps0) (args.map V.st) true H.length H).then KV) := rfl
theorem rG_build {t : Nat} {ps0 : Array (Nat × Operand)} : rG P tt cfg d (.build t ps0) g args H KG = optSide g args ((opR tt cfg.lv d (.build t ps0) (args.map V.st) g H.length H).thenSame H KG) := rfl
theorem rO_buildSlice {t : Nat} {n : Nat} {ps0 : Array (Nat × Operand)} : rO P tt cfg d (.buildSlice t n ps0) args H KV = optSide true args ((opR tt cfg.lv d (.buildSlice t n ps0) (args.map V.st) true H.length H).then KV) := rfl
theorem rG_buildSlice {t : Nat} {n : Nat} {ps0 : Array (Nat × Operand)} : rG P tt cfg d (.buildSlice t n ps0) g args H KG = optSide g args ((opR tt cfg.lv d (.buildSlice t n ps0) (args.map V.st) g H.length H).thenSame H KG) := rfl
theorem rO_makeFunc {f : Fn} {fs : Array Operand} {cs : Array Operand} : rO P tt cfg d (.makeFunc f fs cs) args H KV = optSide true args ((opR tt cfg.lv d (.makeFunc f fs cs) (args.map V.st) true H.length H).then KV) := rfl
theorem rG_makeFunc {f : Fn} {fs : Array Operand} {cs : Array Operand} : rG P tt cfg d (.makeFunc f fs cs) g args H KG = optSide g args ((opR tt cfg.lv d (.makeFunc f fs cs) (args.map V.st) g H.length H).thenSame H KG) := rfl
theorem rO_slice {t : Nat} {x : Operand} {lo : Option Operand} {hi : Option Operand} {mx : Option Operand} : rO P tt cfg d (.slice t x lo hi mx) args H KV = optSide true args ((opR tt cfg.lv d (.slice t x lo hi mx) (args.map V.st) true H.length H).then KV) := rfl
theorem rG_slice {t : Nat} {x : Operand} {lo : Option Operand} {hi : Option Operand} {mx : Option Operand} : rG P tt cfg d (.slice t x lo hi mx) g args H KG = optSide g args ((opR tt cfg.lv d (.slice t x lo hi mx) (args.map V.st) g H.length H).thenSame H KG) := rfl
theorem rO_makeMap {t : Nat} {lo : Option Operand} : rO P tt cfg d (.makeMap t lo) args H KV = optSide true args ((opR tt cfg.lv d (.makeMap t lo) (args.map V.st) true H.length H).then KV) := rfl
theorem rG_makeMap {t : Nat} {lo : Option Operand} : rG P tt cfg d (.makeMap t lo) g args H KG = optSide g args ((opR tt cfg.lv d (.makeMap t lo) (args.map V.st) g H.length H).thenSame H KG) := rfl
theorem getV_succ {x : V} {xs : List V} {n m : Nat} : getV (x :: xs) (n + 1) m = getV xs n m := rfl
theorem getV_cons {x : V} {xs : List V} {m : Nat} : getV (x :: xs) 0 (m + 1) = x :: getV xs 0 m := rfl
theorem getV_zero {xs : List V} : getV xs 0 0 = [] := rfl
theorem rO_pick {x y z : Operand} : rO P tt cfg d (.pick x y z) args H KV = pickR true args (keepK H KV) := rfl
theorem rG_pick {x y z : Operand} : rG P tt cfg d (.pick x y z) g args H KG = pickR g args KG := rfl
theorem rO_builtin {b : Builtin} {as : Array Operand} {ats : Array Nat} : rO P tt cfg d (.call ⟨.builtin b, as, ats⟩) args H KV = optSide true args ((builtinR tt b ats.toList (args.map V.st) H.length H).then KV) := rfl
theorem rG_builtin {b : Builtin} {as : Array Operand} {ats : Array Nat} : rG P tt cfg d (.call ⟨.builtin b, as, ats⟩) g args H KG = optSide g args ((builtinR tt b ats.toList (args.map V.st) H.length H).thenSame H KG) := rfl
theorem rO_value {fo : Operand} {as : Array Operand} {ats : Array Nat} {f : V} {vs : List V} : rO P tt cfg d (.call ⟨.value fo, as, ats⟩) (f :: vs) H KV = optSide true (f :: vs) (callO P f.st (vs.map V.st) H KV) := rfl
theorem rO_invoke {fo : Operand} {nm : String} {as : Array Operand} {ats : Array Nat} {f : V} {vs : List V} : rO P tt cfg d (.call ⟨.invoke fo nm, as, ats⟩) (f :: vs) H KV = optSide true (f :: vs) (callI P f.st nm (vs.map V.st) H KV) := rfl
theorem rG_value {fo : Operand} {as : Array Operand} {ats : Array Nat} {f : V} {vs : List V} : rG P tt cfg d (.call ⟨.value fo, as, ats⟩) g (f :: vs) H KG = optSide g (f :: vs) (callG P g f.st (vs.map V.st) H KG) := rfl
theorem pickR_b {b : Bool} {x y : V} : pickR g [.bool b, x, y] KG = pk2 g b x y KG := rfl
theorem pickR_o {b g1 : Bool} {x y : V} : pickR g [.opt g1 (.bool b), x, y] KG = ((g = true → g1 = true) ∧ pk2 g b x y KG) := rfl
theorem pk2_true {x y : V} : pk2 g true x y KG = pkB g x KG := by simp [pk2]
theorem pk2_false {x y : V} : pk2 g false x y KG = pkB g y KG := by simp [pk2]
theorem pk2_open {b : Bool} {x y : V} : pk2 g b x y KG = ((b = true → pkB g x KG) ∧ (b = false → pkB g y KG)) := rfl
theorem pkB_bool {p : Bool} : pkB g (.bool p) KG = KG (.bool p) := rfl
theorem pkB_opt {p g1 : Bool} : pkB g (.opt g1 (.bool p)) KG = ((g = true → g1 = true) ∧ KG (.bool p)) := rfl
theorem then_ok {v : V} {H' : List Ob} : (Res.ok v H').then KV = KV v H' := rfl
theorem then_need {v : V} {H' : List Ob} {p : Prop} : (Res.need p v H').then KV = (p ∧ (p → KV v H')) := propext ⟨fun h => ⟨h.1, fun _ => h.2⟩, fun h => ⟨h.1, h.2 h.1⟩⟩
theorem same_ok {v : V} : (Res.ok v H).thenSame H KG = KG v := by simp [Res.thenSame]
theorem same_need {v : V} {p : Prop} : (Res.need p v H).thenSame H KG = (p ∧ (p → KG v)) := propext ⟨fun h => ⟨h.2.1, fun _ => h.2.2⟩, fun h => ⟨rfl, h.1, h.2 h.1⟩⟩
theorem i64_ok {n : Int} (h1 : -9223372036854775808 ≤ n) (h2 : n ≤ 9223372036854775807) : IntKind.i64.wrap n = n := IntWalk.i64_in n ⟨h1, h2⟩
theorem u8_ok {n : Int} (h1 : 0 ≤ n) (h2 : n ≤ 255) : IntKind.u8.wrap n = n := IntWalk.u8_in n ⟨h1, h2⟩
theorem u64_ok {n : Int} (h1 : 0 ≤ n) (h2 : n ≤ 18446744073709551615) : IntKind.u64.wrap n = n := IntWalk.u64_in n ⟨h1, h2⟩
theorem ile_ok {a b : Int} (h : a ≤ b) : (a ≤ b) = True := eq_true h
theorem ilt_ok {a b : Int} (h : a < b) : (a < b) = True := eq_true h
theorem ile_no {a b : Int} (h : b < a) : (a ≤ b) = False := by simp; exact h
theorem ilt_no {a b : Int} (h : b ≤ a) : (a < b) = False := by simp; exact h
theorem nle_ok {a b : Nat} (h : a ≤ b) : (a ≤ b) = True := eq_true h
theorem nlt_ok {a b : Nat} (h : a < b) : (a < b) = True := eq_true h
theorem nle_no {a b : Nat} (h : b < a) : (a ≤ b) = False := by simp; exact h
theorem nlt_no {a b : Nat} (h : b ≤ a) : (a < b) = False := by simp; exact h
theorem neq_ok {a b : Nat} (h : a = b) : (a = b) = True := eq_true h
theorem neq_no {a b : Nat} (h : a ≠ b) : (a = b) = False := eq_false h
theorem ieq_ok {a b : Int} (h : a = b) : (a = b) = True := eq_true h
theorem ieq_no {a b : Int} (h : a ≠ b) : (a = b) = False := eq_false h
@[congr] theorem getT_cg {n n' : Nat} (h : n = n') : getT tm n = getT tm n' := by rw [h]
@[congr] theorem putT_cg {d' : Option Nat} {v v' : V} (h : d = d') (h2 : v = v') : putT tm d v = putT tm d' v' := by rw [h, h2]
@[congr] theorem opAt_cg {i i' : Nat} (h : i = i') : opAt ops i = opAt ops i' := by rw [h]
@[congr] theorem gvl_cg {o o' : Option Oper} {w : Bool} (h : o = o') : gvl o tm w = gvl o' tm w := by rw [h]
theorem gvl_some {ty : Nat} {n : Nat} {op : Op} {ps : String} {af : Array Edge} {gd : Option (Nat × Bool)} {w : Bool} : gvl (some ⟨some n, op, ty, ps, af, gd⟩) tm w = gvv (getT tm n) w := rfl
@[congr] theorem os_cg {xs xs' : List V} {p : Prop} (h : xs = xs') : optSide g xs p = optSide g xs' p := by rw [h]
@[congr] theorem pk2_cg {b b' : Bool} {x y : V} (h : b = b') : pk2 g b x y KG = pk2 g b' x y KG := by rw [h]
@[congr] theorem ev_cg {c : Code} : ev P tt cfg c Q s = ev P tt cfg c Q s := rfl
@[congr] theorem evOps_cg {tm' : List V} {H' : List Ob} (h : tm = tm') (h2 : H = H') : evOps P tt cfg ops rest tm H K = evOps P tt cfg ops rest tm' H' K := by rw [h, h2]
@[congr] theorem evOpsD_cg {tm' : List V} {H' : List Ob} (h : tm = tm') (h2 : H = H') : evOpsD P tt cfg rs ops rest tm H K = evOpsD P tt cfg rs ops rest tm' H' K := by rw [h, h2]
@[congr] theorem evI_cg {l : List Nat} {tm' : List V} {H' : List Ob} (h : tm = tm') (h2 : H = H') : evI P tt cfg rs ops l tm H K = evI P tt cfg rs ops l tm' H' K := by rw [h, h2]
@[congr] theorem evIo_cg {l : List Nat} {o o' : Option Oper} (h : o = o') : evIo P tt cfg rs ops o l tm H K = evIo P tt cfg rs ops o' l tm H K := by rw [h]
@[congr] theorem drw_cg {l : List Oper} {o o' : Option (List Nat)} {rs' : List (Nat × Nat)} {H' : List Ob} (h : o = o') (h2 : rs = rs') (h3 : H = H') : drw P tt cfg l rs o tm H K = drw P tt cfg l rs' o' tm H' K := by rw [h, h2, h3]
@[congr] theorem rX_cg {op : Op} {args' : List V} (h : args = args') : rX P tt cfg rs d op args H KV = rX P tt cfg rs d op args' H KV := by rw [h]
@[congr] theorem rsK_cg {o o' : Option Nat} {k : Nat → Prop} (h : o = o') : rsK o H k = rsK o' H k := by rw [h]
@[congr] theorem grdD_cg {op : Op} {o o' : Option Bool} {e e' : Bool} (h : o = o') (h2 : e = e') : grdD P tt cfg rs d op o e args tm H K = grdD P tt cfg rs d op o' e' args tm H K := by rw [h, h2]
@[congr] theorem frkD_cg {op : Op} {g' e e' : Bool} (h : g = g') (h2 : e = e') : frkD P tt cfg rs d op g e args tm H K = frkD P tt cfg rs d op g' e' args tm H K := by rw [h, h2]
@[congr] theorem evOp_cg {o : Oper} : evOp P tt cfg ops o tm H K = evOp P tt cfg ops o tm H K := rfl
@[congr] theorem evOpD_cg {o : Oper} : evOpD P tt cfg rs ops o tm H K = evOpD P tt cfg rs ops o tm H K := rfl
@[congr] theorem rO_cg {op : Op} {args' : List V} (h : args = args') : rO P tt cfg d op args H KV = rO P tt cfg d op args' H KV := by rw [h]
@[congr] theorem rG_cg {op : Op} {args' : List V} (h : args = args') : rG P tt cfg d op g args H KG = rG P tt cfg d op g args' H KG := by rw [h]
@[congr] theorem grd_cg {op : Op} {o o' : Option Bool} {e e' : Bool} (h : o = o') (h2 : e = e') : grd P tt cfg d op o e args tm H K = grd P tt cfg d op o' e' args tm H K := by rw [h, h2]
@[congr] theorem frk_cg {op : Op} {g' e e' : Bool} (h : g = g') (h2 : e = e') : frk P tt cfg d op g e args tm H K = frk P tt cfg d op g' e' args tm H K := by rw [h, h2]
@[congr] theorem ung_cg {op : Op} {e e' : Bool} (h2 : e = e') : ung P tt cfg rs d op e args tm H K = ung P tt cfg rs d op e' args tm H K := by rw [h2]
@[congr] theorem then_cg {r r' : Res} (h : r = r') : r.then KV = r'.then KV := by rw [h]
@[congr] theorem same_cg {r r' : Res} (h : r = r') : r.thenSame H KG = r'.thenSame H KG := by rw [h]
@[congr] theorem brK_cg {v v' : V} {A B : S → Prop} (h : v = v') : brK v A B s = brK v' A B s := by rw [h]
@[congr] theorem br2_cg {b b' : Bool} {A B : S → Prop} (h : b = b') : br2 b A B s = br2 b' A B s := by rw [h]
@[congr] theorem nxt_cg : nxt P tt cfg ops rest K tm H = nxt P tt cfg ops rest K tm H := rfl
@[congr] theorem nxtD_cg : nxtD P tt cfg rs ops rest K tm H = nxtD P tt cfg rs ops rest K tm H := rfl
@[congr] theorem nxtI_cg {r : List Nat} : nxtI P tt cfg rs ops r K tm H = nxtI P tt cfg rs ops r K tm H := rfl
@[congr] theorem nrm_cg : nrm Q tm H = nrm Q tm H := rfl
@[congr] theorem putK_cg {v : V} : putK d tm K v H = putK d tm K v H := rfl
@[congr] theorem putKt_cg {v : V} : putKt d tm K v H = putKt d tm K v H := rfl
@[congr] theorem putG_cg {v : V} : putG g d tm H K v = putG g d tm H K v := rfl
@[congr] theorem putH_cg {v : V} : putH d tm H K v = putH d tm H K v := rfl
@[congr] theorem keepK_cg {v : V} : keepK H KV v = keepK H KV v := rfl
@[congr] theorem andThen_cg {next : S → Prop} {e : Exit} : andThen next Q e s = andThen next Q e s := rfl
@[congr] theorem inBlk_cg {i : Nat} {e : Exit} : inBlk i Q e s = inBlk i Q e s := rfl
@[congr] theorem callO_cg {f f' : V} {args' : List V} (h : f = f') (h2 : args = args') : callO P f args H KV = callO P f' args' H KV := by rw [h, h2]
@[congr] theorem callX_cg {f f' : V} {args' : List V} (h : f = f') (h2 : args = args') : callX P f args H KV = callX P f' args' H KV := by rw [h, h2]
@[congr] theorem callG_cg {f f' : V} {args' : List V} (h : f = f') (h2 : args = args') : callG P g f args H KG = callG P g f' args' H KG := by rw [h, h2]
@[congr] theorem keepE_cg {H' : List Ob} {v : V} {ks : Option (List Nat)} : keepE ks H KV v H' = keepE ks H KV v H' := rfl
@[congr] theorem rXv_cg {b b' : Bool} {f f' : V} {vs vs' : List V} {ks ks' : Option (List Nat)} (h : b = b') (h2 : f = f') (h3 : vs = vs') (h4 : ks = ks') : rXv P b f vs H ks KV = rXv P b' f' vs' H ks' KV := by rw [h, h2, h3, h4]
@[congr] theorem Lp_cg {c : Code} {s' : S} (h : s = s') : Lp P c Q s = Lp P c Q s' := by rw [h]
theorem getT_0 {x0 : V} {xs : List V} : getT (x0 :: xs) 0 = x0 := rfl
theorem putT_0 {x0 v : V} {xs : List V} : putT (x0 :: xs) (some 0) v = v :: xs := rfl
theorem getO_0 {x0 : Oper} {xs : List Oper} : opAt (x0 :: xs) 0 = some x0 := rfl
theorem getT_1 {x0 x1 : V} {xs : List V} : getT (x0 :: x1 :: xs) 1 = x1 := rfl
theorem putT_1 {x0 x1 v : V} {xs : List V} : putT (x0 :: x1 :: xs) (some 1) v = x0 :: v :: xs := rfl
theorem getO_1 {x0 x1 : Oper} {xs : List Oper} : opAt (x0 :: x1 :: xs) 1 = some x1 := rfl
theorem getT_2 {x0 x1 x2 : V} {xs : List V} : getT (x0 :: x1 :: x2 :: xs) 2 = x2 := rfl
theorem putT_2 {x0 x1 x2 v : V} {xs : List V} : putT (x0 :: x1 :: x2 :: xs) (some 2) v = x0 :: x1 :: v :: xs := rfl
theorem getO_2 {x0 x1 x2 : Oper} {xs : List Oper} : opAt (x0 :: x1 :: x2 :: xs) 2 = some x2 := rfl
theorem getT_3 {x0 x1 x2 x3 : V} {xs : List V} : getT (x0 :: x1 :: x2 :: x3 :: xs) 3 = x3 := rfl
theorem putT_3 {x0 x1 x2 x3 v : V} {xs : List V} : putT (x0 :: x1 :: x2 :: x3 :: xs) (some 3) v = x0 :: x1 :: x2 :: v :: xs := rfl
theorem getO_3 {x0 x1 x2 x3 : Oper} {xs : List Oper} : opAt (x0 :: x1 :: x2 :: x3 :: xs) 3 = some x3 := rfl
theorem getT_4 {x0 x1 x2 x3 x4 : V} {xs : List V} : getT (x0 :: x1 :: x2 :: x3 :: x4 :: xs) 4 = x4 := rfl
theorem putT_4 {x0 x1 x2 x3 x4 v : V} {xs : List V} : putT (x0 :: x1 :: x2 :: x3 :: x4 :: xs) (some 4) v = x0 :: x1 :: x2 :: x3 :: v :: xs := rfl
theorem getO_4 {x0 x1 x2 x3 x4 : Oper} {xs : List Oper} : opAt (x0 :: x1 :: x2 :: x3 :: x4 :: xs) 4 = some x4 := rfl
theorem getT_5 {x0 x1 x2 x3 x4 x5 : V} {xs : List V} : getT (x0 :: x1 :: x2 :: x3 :: x4 :: x5 :: xs) 5 = x5 := rfl
theorem putT_5 {x0 x1 x2 x3 x4 x5 v : V} {xs : List V} : putT (x0 :: x1 :: x2 :: x3 :: x4 :: x5 :: xs) (some 5) v = x0 :: x1 :: x2 :: x3 :: x4 :: v :: xs := rfl
theorem getO_5 {x0 x1 x2 x3 x4 x5 : Oper} {xs : List Oper} : opAt (x0 :: x1 :: x2 :: x3 :: x4 :: x5 :: xs) 5 = some x5 := rfl
theorem getT_6 {x0 x1 x2 x3 x4 x5 x6 : V} {xs : List V} : getT (x0 :: x1 :: x2 :: x3 :: x4 :: x5 :: x6 :: xs) 6 = x6 := rfl
theorem putT_6 {x0 x1 x2 x3 x4 x5 x6 v : V} {xs : List V} : putT (x0 :: x1 :: x2 :: x3 :: x4 :: x5 :: x6 :: xs) (some 6) v = x0 :: x1 :: x2 :: x3 :: x4 :: x5 :: v :: xs := rfl
theorem getO_6 {x0 x1 x2 x3 x4 x5 x6 : Oper} {xs : List Oper} : opAt (x0 :: x1 :: x2 :: x3 :: x4 :: x5 :: x6 :: xs) 6 = some x6 := rfl
theorem getT_7 {x0 x1 x2 x3 x4 x5 x6 x7 : V} {xs : List V} : getT (x0 :: x1 :: x2 :: x3 :: x4 :: x5 :: x6 :: x7 :: xs) 7 = x7 := rfl
theorem putT_7 {x0 x1 x2 x3 x4 x5 x6 x7 v : V} {xs : List V} : putT (x0 :: x1 :: x2 :: x3 :: x4 :: x5 :: x6 :: x7 :: xs) (some 7) v = x0 :: x1 :: x2 :: x3 :: x4 :: x5 :: x6 :: v :: xs := rfl
theorem getO_7 {x0 x1 x2 x3 x4 x5 x6 x7 : Oper} {xs : List Oper} : opAt (x0 :: x1 :: x2 :: x3 :: x4 :: x5 :: x6 :: x7 :: xs) 7 = some x7 := rfl
theorem getT_8 {x0 x1 x2 x3 x4 x5 x6 x7 x8 : V} {xs : List V} : getT (x0 :: x1 :: x2 :: x3 :: x4 :: x5 :: x6 :: x7 :: x8 :: xs) 8 = x8 := rfl
theorem putT_8 {x0 x1 x2 x3 x4 x5 x6 x7 x8 v : V} {xs : List V} : putT (x0 :: x1 :: x2 :: x3 :: x4 :: x5 :: x6 :: x7 :: x8 :: xs) (some 8) v = x0 :: x1 :: x2 :: x3 :: x4 :: x5 :: x6 :: x7 :: v :: xs := rfl
theorem getO_8 {x0 x1 x2 x3 x4 x5 x6 x7 x8 : Oper} {xs : List Oper} : opAt (x0 :: x1 :: x2 :: x3 :: x4 :: x5 :: x6 :: x7 :: x8 :: xs) 8 = some x8 := rfl
theorem getT_9 {x0 x1 x2 x3 x4 x5 x6 x7 x8 x9 : V} {xs : List V} : getT (x0 :: x1 :: x2 :: x3 :: x4 :: x5 :: x6 :: x7 :: x8 :: x9 :: xs) 9 = x9 := rfl
theorem putT_9 {x0 x1 x2 x3 x4 x5 x6 x7 x8 x9 v : V} {xs : List V} : putT (x0 :: x1 :: x2 :: x3 :: x4 :: x5 :: x6 :: x7 :: x8 :: x9 :: xs) (some 9) v = x0 :: x1 :: x2 :: x3 :: x4 :: x5 :: x6 :: x7 :: x8 :: v :: xs := rfl
theorem getO_9 {x0 x1 x2 x3 x4 x5 x6 x7 x8 x9 : Oper} {xs : List Oper} : opAt (x0 :: x1 :: x2 :: x3 :: x4 :: x5 :: x6 :: x7 :: x8 :: x9 :: xs) 9 = some x9 := rfl
theorem getT_10 {x0 x1 x2 x3 x4 x5 x6 x7 x8 x9 x10 : V} {xs : List V} : getT (x0 :: x1 :: x2 :: x3 :: x4 :: x5 :: x6 :: x7 :: x8 :: x9 :: x10 :: xs) 10 = x10 := rfl
theorem putT_10 {x0 x1 x2 x3 x4 x5 x6 x7 x8 x9 x10 v : V} {xs : List V} : putT (x0 :: x1 :: x2 :: x3 :: x4 :: x5 :: x6 :: x7 :: x8 :: x9 :: x10 :: xs) (some 10) v = x0 :: x1 :: x2 :: x3 :: x4 :: x5 :: x6 :: x7 :: x8 :: x9 :: v :: xs := rfl
theorem getO_10 {x0 x1 x2 x3 x4 x5 x6 x7 x8 x9 x10 : Oper} {xs : List Oper} : opAt (x0 :: x1 :: x2 :: x3 :: x4 :: x5 :: x6 :: x7 :: x8 :: x9 :: x10 :: xs) 10 = some x10 := rfl
theorem getT_11 {x0 x1 x2 x3 x4 x5 x6 x7 x8 x9 x10 x11 : V} {xs : List V} : getT (x0 :: x1 :: x2 :: x3 :: x4 :: x5 :: x6 :: x7 :: x8 :: x9 :: x10 :: x11 :: xs) 11 = x11 := rfl
theorem putT_11 {x0 x1 x2 x3 x4 x5 x6 x7 x8 x9 x10 x11 v : V} {xs : List V} : putT (x0 :: x1 :: x2 :: x3 :: x4 :: x5 :: x6 :: x7 :: x8 :: x9 :: x10 :: x11 :: xs) (some 11) v = x0 :: x1 :: x2 :: x3 :: x4 :: x5 :: x6 :: x7 :: x8 :: x9 :: x10 :: v :: xs := rfl
theorem getO_11 {x0 x1 x2 x3 x4 x5 x6 x7 x8 x9 x10 x11 : Oper} {xs : List Oper} : opAt (x0 :: x1 :: x2 :: x3 :: x4 :: x5 :: x6 :: x7 :: x8 :: x9 :: x10 :: x11 :: xs) 11 = some x11 := rfl
theorem getT_12 {x0 x1 x2 x3 x4 x5 x6 x7 x8 x9 x10 x11 x12 : V} {xs : List V} : getT (x0 :: x1 :: x2 :: x3 :: x4 :: x5 :: x6 :: x7 :: x8 :: x9 :: x10 :: x11 :: x12 :: xs) 12 = x12 := rfl
theorem putT_12 {x0 x1 x2 x3 x4 x5 x6 x7 x8 x9 x10 x11 x12 v : V} {xs : List V} : putT (x0 :: x1 :: x2 :: x3 :: x4 :: x5 :: x6 :: x7 :: x8 :: x9 :: x10 :: x11 :: x12 :: xs) (some 12) v = x0 :: x1 :: x2 :: x3 :: x4 :: x5 :: x6 :: x7 :: x8 :: x9 :: x10 :: x11 :: v :: xs := rfl
theorem getO_12 {x0 x1 x2 x3 x4 x5 x6 x7 x8 x9 x10 x11 x12 : Oper} {xs : List Oper} : opAt (x0 :: x1 :: x2 :: x3 :: x4 :: x5 :: x6 :: x7 :: x8 :: x9 :: x10 :: x11 :: x12 :: xs) 12 = some x12 := rfl
theorem getT_13 {x0 x1 x2 x3 x4 x5 x6 x7 x8 x9 x10 x11 x12 x13 : V} {xs : List V} : getT (x0 :: x1 :: x2 :: x3 :: x4 :: x5 :: x6 :: x7 :: x8 :: x9 :: x10 :: x11 :: x12 :: x13 :: xs) 13 = x13 := rfl
theorem putT_13 {x0 x1 x2 x3 x4 x5 x6 x7 x8 x9 x10 x11 x12 x13 v : V} {xs : List V} : putT (x0 :: x1 :: x2 :: x3 :: x4 :: x5 :: x6 :: x7 :: x8 :: x9 :: x10 :: x11 :: x12 :: x13 :: xs) (some 13) v = x0 :: x1 :: x2 :: x3 :: x4 :: x5 :: x6 :: x7 :: x8 :: x9 :: x10 :: x11 :: x12 :: v :: xs := rfl
theorem getO_13 {x0 x1 x2 x3 x4 x5 x6 x7 x8 x9 x10 x11 x12 x13 : Oper} {xs : List Oper} : opAt (x0 :: x1 :: x2 :: x3 :: x4 :: x5 :: x6 :: x7 :: x8 :: x9 :: x10 :: x11 :: x12 :: x13 :: xs) 13 = some x13 := rfl
theorem getT_14 {x0 x1 x2 x3 x4 x5 x6 x7 x8 x9 x10 x11 x12 x13 x14 : V} {xs : List V} : getT (x0 :: x1 :: x2 :: x3 :: x4 :: x5 :: x6 :: x7 :: x8 :: x9 :: x10 :: x11 :: x12 :: x13 :: x14 :: xs) 14 = x14 := rfl
theorem putT_14 {x0 x1 x2 x3 x4 x5 x6 x7 x8 x9 x10 x11 x12 x13 x14 v : V} {xs : List V} : putT (x0 :: x1 :: x2 :: x3 :: x4 :: x5 :: x6 :: x7 :: x8 :: x9 :: x10 :: x11 :: x12 :: x13 :: x14 :: xs) (some 14) v = x0 :: x1 :: x2 :: x3 :: x4 :: x5 :: x6 :: x7 :: x8 :: x9 :: x10 :: x11 :: x12 :: x13 :: v :: xs := rfl
theorem getO_14 {x0 x1 x2 x3 x4 x5 x6 x7 x8 x9 x10 x11 x12 x13 x14 : Oper} {xs : List Oper} : opAt (x0 :: x1 :: x2 :: x3 :: x4 :: x5 :: x6 :: x7 :: x8 :: x9 :: x10 :: x11 :: x12 :: x13 :: x14 :: xs) 14 = some x14 := rfl
theorem getT_15 {x0 x1 x2 x3 x4 x5 x6 x7 x8 x9 x10 x11 x12 x13 x14 x15 : V} {xs : List V} : getT (x0 :: x1 :: x2 :: x3 :: x4 :: x5 :: x6 :: x7 :: x8 :: x9 :: x10 :: x11 :: x12 :: x13 :: x14 :: x15 :: xs) 15 = x15 := rfl
theorem putT_15 {x0 x1 x2 x3 x4 x5 x6 x7 x8 x9 x10 x11 x12 x13 x14 x15 v : V} {xs : List V} : putT (x0 :: x1 :: x2 :: x3 :: x4 :: x5 :: x6 :: x7 :: x8 :: x9 :: x10 :: x11 :: x12 :: x13 :: x14 :: x15 :: xs) (some 15) v = x0 :: x1 :: x2 :: x3 :: x4 :: x5 :: x6 :: x7 :: x8 :: x9 :: x10 :: x11 :: x12 :: x13 :: x14 :: v :: xs := rfl
theorem getO_15 {x0 x1 x2 x3 x4 x5 x6 x7 x8 x9 x10 x11 x12 x13 x14 x15 : Oper} {xs : List Oper} : opAt (x0 :: x1 :: x2 :: x3 :: x4 :: x5 :: x6 :: x7 :: x8 :: x9 :: x10 :: x11 :: x12 :: x13 :: x14 :: x15 :: xs) 15 = some x15 := rfl
theorem getT_N {x0 x1 x2 x3 x4 x5 x6 x7 x8 x9 x10 x11 x12 x13 x14 x15 : V} {xs : List V} {n : Nat} : getT (x0 :: x1 :: x2 :: x3 :: x4 :: x5 :: x6 :: x7 :: x8 :: x9 :: x10 :: x11 :: x12 :: x13 :: x14 :: x15 :: xs) (n + 16) = getT xs n := rfl
theorem putT_N {x0 x1 x2 x3 x4 x5 x6 x7 x8 x9 x10 x11 x12 x13 x14 x15 v : V} {xs : List V} {n : Nat} : putT (x0 :: x1 :: x2 :: x3 :: x4 :: x5 :: x6 :: x7 :: x8 :: x9 :: x10 :: x11 :: x12 :: x13 :: x14 :: x15 :: xs) (some (n + 16)) v = x0 :: x1 :: x2 :: x3 :: x4 :: x5 :: x6 :: x7 :: x8 :: x9 :: x10 :: x11 :: x12 :: x13 :: x14 :: x15 :: putT xs (some n) v := rfl
theorem getO_N {x0 x1 x2 x3 x4 x5 x6 x7 x8 x9 x10 x11 x12 x13 x14 x15 : Oper} {xs : List Oper} {n : Nat} : opAt (x0 :: x1 :: x2 :: x3 :: x4 :: x5 :: x6 :: x7 :: x8 :: x9 :: x10 :: x11 :: x12 :: x13 :: x14 :: x15 :: xs) (n + 16) = opAt xs n := rfl
theorem putT_n {v : V} {xs : List V} : putT xs none v = xs := putT_none xs
theorem ibeq_t {a b : Int} (h : a = b) : (a == b) = true := by simp [h]
theorem ibeq_f {a b : Int} (h : a ≠ b) : (a == b) = false := by simp [h]
theorem ibne_t {a b : Int} (h : a ≠ b) : (a != b) = true := by simp [h]
theorem ibne_f {a b : Int} (h : a = b) : (a != b) = false := by simp [h]
theorem beq_t {α : Type} [BEq α] [LawfulBEq α] {a b : α} (h : a = b) : (a == b) = true := by simp [h]
theorem beq_f {α : Type} [BEq α] [LawfulBEq α] {a b : α} (h : ¬ a = b) : (a == b) = false := by simp [h]
def kp : Nat → (List V → List V) → List V → List V
 | 0, f, ts => f ts
 | n + 1, f, t :: ts => t :: kp n f ts
 | _ + 1, _, [] => []
def dd : Nat → (List V → List V) → List V → List V
 | 0, f, ts => f ts
 | n + 1, f, _ :: ts => .dead :: dd n f ts
 | _ + 1, _, [] => []
def sv (v : V) (f : List V → List V) : List V → List V
 | _ :: ts => v :: f ts
 | [] => []
def nl (ts : List V) : List V := ts
theorem kp_z {f : List V → List V} {ts : List V} : kp 0 f ts = f ts := rfl
theorem kp_s {n : Nat} {f : List V → List V} {t : V} {ts : List V} : kp (n + 1) f (t :: ts) = t :: kp n f ts := rfl
theorem dd_z {f : List V → List V} {ts : List V} : dd 0 f ts = f ts := rfl
theorem dd_s {n : Nat} {f : List V → List V} {t : V} {ts : List V} : dd (n + 1) f (t :: ts) = .dead :: dd n f ts := rfl
theorem sv_s {v : V} {f : List V → List V} {t : V} {ts : List V} : sv v f (t :: ts) = v :: f ts := rfl
theorem nl_s {ts : List V} : nl ts = ts := rfl
theorem imp_true {p : Prop} : imp true p = p := rfl
theorem imp_eq {p : Prop} : imp g p = (g = true → p) := by cases g <;> simp [imp]
theorem os_int {k : IntKind} {n : Int} {xs : List V} {p : Prop} : optSide g (.int k n :: xs) p = optSide g xs p := rfl
theorem st_int {k : IntKind} {n : Int} : (V.int k n).st = .int k n := rfl
theorem os_bool {b : Bool} {xs : List V} {p : Prop} : optSide g (.bool b :: xs) p = optSide g xs p := rfl
theorem st_bool {b : Bool} : (V.bool b).st = .bool b := rfl
theorem os_str {x : List UInt8} {xs : List V} {p : Prop} : optSide g (.str x :: xs) p = optSide g xs p := rfl
theorem st_str {x : List UInt8} : (V.str x).st = .str x := rfl
theorem os_nilp  {xs : List V} {p : Prop} : optSide g (.nilp  :: xs) p = optSide g xs p := rfl
theorem st_nilp  : (V.nilp ).st = .nilp  := rfl
theorem os_nili  {xs : List V} {p : Prop} : optSide g (.nili  :: xs) p = optSide g xs p := rfl
theorem st_nili  : (V.nili ).st = .nili  := rfl
theorem os_nilf  {xs : List V} {p : Prop} : optSide g (.nilf  :: xs) p = optSide g xs p := rfl
theorem st_nilf  : (V.nilf ).st = .nilf  := rfl
theorem os_nilm  {xs : List V} {p : Prop} : optSide g (.nilm  :: xs) p = optSide g xs p := rfl
theorem st_nilm  : (V.nilm ).st = .nilm  := rfl
theorem os_agg {x : List V} {xs : List V} {p : Prop} : optSide g (.agg x :: xs) p = optSide g xs p := rfl
theorem st_agg {x : List V} : (V.agg x).st = .agg x := rfl
theorem os_tup {x : List V} {xs : List V} {p : Prop} : optSide g (.tup x :: xs) p = optSide g xs p := rfl
theorem st_tup {x : List V} : (V.tup x).st = .tup x := rfl
theorem os_sl {b : Bool} {x : List V} {n : Nat} {xs : List V} {p : Prop} : optSide g (.sl b x n :: xs) p = optSide g xs p := rfl
theorem st_sl {b : Bool} {x : List V} {n : Nat} : (V.sl b x n).st = .sl b x n := rfl
theorem os_fp {x : List V} {xs : List V} {p : Prop} : optSide g (.fp x :: xs) p = optSide g xs p := rfl
theorem st_fp {x : List V} : (V.fp x).st = .fp x := rfl
theorem os_buf {a b c e f : Nat} {xs : List V} {p : Prop} : optSide g (.buf a b c e f :: xs) p = optSide g xs p := rfl
theorem st_buf {a b c e f : Nat} : (V.buf a b c e f).st = .buf a b c e f := rfl
theorem os_ptr {a b c : Nat} {xs : List V} {p : Prop} : optSide g (.ptr a b c :: xs) p = optSide g xs p := rfl
theorem st_ptr {a b c : Nat} : (V.ptr a b c).st = .ptr a b c := rfl
theorem os_mp {a : Nat} {xs : List V} {p : Prop} : optSide g (.mp a :: xs) p = optSide g xs p := rfl
theorem st_mp {a : Nat} : (V.mp a).st = .mp a := rfl
theorem os_ifc {t : TypeId} {v : V} {xs : List V} {p : Prop} : optSide g (.ifc t v :: xs) p = optSide g xs p := rfl
theorem st_ifc {t : TypeId} {v : V} : (V.ifc t v).st = .ifc t v := rfl
theorem os_fn {f : Fn} {a b : List V} {xs : List V} {p : Prop} : optSide g (.fn f a b :: xs) p = optSide g xs p := rfl
theorem st_fn {f : Fn} {a b : List V} : (V.fn f a b).st = .fn f a b := rfl
theorem os_opt {b : Bool} {v : V} {xs : List V} {p : Prop} : optSide g (.opt b v :: xs) p = ((g = true → b = true) ∧ optSide g xs p) := rfl
theorem os_nil {p : Prop} : optSide g [] p = p := rfl
theorem st_opt {b : Bool} {v : V} : (V.opt b v).st = v := rfl
theorem op_move {x : Operand} : opnds (.move x) = [x] := rfl
theorem op_assign {x : Operand} : opnds (.assign x) = [x] := rfl
theorem op_alloc {e : Nat} : opnds (.alloc e) = [] := rfl
theorem op_box {e : Nat} {x : Operand} : opnds (.box e x) = [x] := rfl
theorem op_load {t : Nat} {x : Operand} : opnds (.load t x) = [x] := rfl
theorem op_store {t : Nat} {x : Operand} {y : Operand} : opnds (.store t x y) = [x, y] := rfl
theorem op_nilCheck {x : Operand} : opnds (.nilCheck x) = [x] := rfl
theorem op_binOp {op : BinOp} {t : Nat} {x : Operand} {y : Operand} {r : Nat} : opnds (.binOp op t x y r) = [x, y] := rfl
theorem op_unOp {op : UnOp} {t : Nat} {x : Operand} : opnds (.unOp op t x) = [x] := rfl
theorem op_convert {s : Nat} {t : Nat} {x : Operand} : opnds (.convert s t x) = [x] := rfl
theorem op_makeInterface {t : Nat} {x : Operand} : opnds (.makeInterface t x) = [x] := rfl
theorem op_makeSlice {t : Nat} {x : Operand} {y : Operand} : opnds (.makeSlice t x y) = [x, y] := rfl
theorem op_fieldAddr {t : Nat} {x : Operand} {f : Nat} : opnds (.fieldAddr t x f) = [x] := rfl
theorem op_field {t : Nat} {x : Operand} {f : Nat} : opnds (.field t x f) = [x] := rfl
theorem op_indexAddr {t : Nat} {x : Operand} {y : Operand} : opnds (.indexAddr t x y) = [x, y] := rfl
theorem op_index {t : Nat} {x : Operand} {y : Operand} : opnds (.index t x y) = [x, y] := rfl
theorem op_extract {x : Operand} {i : Nat} : opnds (.extract x i) = [x] := rfl
theorem op_typeAssert {x : Operand} {s : Nat} {t : Nat} {ok : Bool} : opnds (.typeAssert x s t ok) = [x] := rfl
theorem op_lookup {t : Nat} {x : Operand} {y : Operand} {ok : Bool} : opnds (.lookup t x y ok) = [x, y] := rfl
theorem op_mapUpdate {t : Nat} {x : Operand} {y : Operand} {z : Operand} : opnds (.mapUpdate t x y z) = [x, y, z] := rfl
theorem op_insert {t : Nat} {x : Operand} {y : Operand} {z : Operand} : opnds (.insert t x y z) = [x, y, z] := rfl
theorem op_pick {x y z : Operand} : opnds (.pick x y z) = [x, y, z] := rfl
theorem op_build {t : Nat} {l : List (Nat × Operand)} : opnds (.build t l.toArray) = l.map (·.2) := rfl
theorem op_buildSlice {t n : Nat} {l : List (Nat × Operand)} : opnds (.buildSlice t n l.toArray) = l.map (·.2) := rfl
theorem op_makeFunc {f : Fn} {a b : List Operand} : opnds (.makeFunc f a.toArray b.toArray) = a ++ b := rfl
theorem op_makeMap {t : Nat} : opnds (.makeMap t none) = [] := rfl
theorem op_slice0 {t : Nat} {x : Operand} : opnds (.slice t x none none none) = [x] := rfl
theorem op_slice1 {t : Nat} {x a : Operand} : opnds (.slice t x (some a) none none) = [x, a] := rfl
theorem op_slice2 {t : Nat} {x a : Operand} : opnds (.slice t x none (some a) none) = [x, a] := rfl
theorem op_slice3 {t : Nat} {x a b : Operand} : opnds (.slice t x (some a) (some b) none) = [x, a, b] := rfl
theorem op_slice4 {t : Nat} {x b c : Operand} : opnds (.slice t x none (some b) (some c)) = [x, b, c] := rfl
theorem op_slice5 {t : Nat} {x a b c : Operand} : opnds (.slice t x (some a) (some b) (some c)) = [x, a, b, c] := rfl
theorem op_builtin {b : Builtin} {l : List Operand} {ats : Array Nat} : opnds (.call ⟨.builtin b, l.toArray, ats⟩) = l := rfl
theorem op_invoke {f : Operand} {nm : String} {l : List Operand} {ats : Array Nat} : opnds (.call ⟨.invoke f nm, l.toArray, ats⟩) = f :: l := rfl
theorem op_value {f : Operand} {l : List Operand} {ats : Array Nat} : opnds (.call ⟨.value f, l.toArray, ats⟩) = f :: l := rfl
theorem callO.pc {n : Nat} {args a b : List V} {v : V} (h : PC P n (a ++ args ++ b) v) (k : KV v H) : callO P (.fn (.func n) a b) args H KV := ⟨v, H, .inl (h H), k⟩
theorem callI.of {t : Nat} {x : V} {nm : String} {n : Nat} {args : List V} (hm : MethAt P t nm n) (h : callO P (.fn (.func n) [] []) (x :: args) H KV) : callI P (.ifc t x) nm args H KV := by
 obtain ⟨v, H', h1, h2⟩ := h
 exact ⟨v, H', ⟨n, hm, h1⟩, h2⟩
theorem callX.pc {n : Nat} {args a b : List V} {v : V} (h : PC P n (a ++ args ++ b) v) (k : KV v H) : callX P (.fn (.func n) a b) args H KV := ⟨v, [], trivial, fun H' _ _ => by rw [List.append_nil]; exact .inl (h H'), by rw [List.append_nil]; exact k⟩
theorem callG.pc {n : Nat} {args a b : List V} {v : V} (h : g = true → PC P n (a ++ args ++ b) v) (k : KG v) : callG P g (.fn (.func n) a b) args H KG := ⟨v, fun e H' _ => .inl (h e H'), k⟩
theorem evRes_mono {K K' : List V → Prop} (hk : ∀ vs, K vs → K' vs) : ∀ {rs : List ResultVar} {tm : List V} {H : List Ob}, evRes tt rs tm H K → evRes tt rs tm H K'
 | [], _, _, h => hk _ h
 | .tmp t :: r, tm, H, h => evRes_mono (K := fun vs => K (getT tm t :: vs)) (K' := fun vs => K' (getT tm t :: vs)) (fun vs => hk _) (rs := r) h
 | .cell a t :: r, tm, H, h => by
  simp only [evRes] at h ⊢
  split at h
  ·cases hr : ldR (tt t) (getT tm a) true H with
   | ok v H' => rw [hr] at h; exact evRes_mono (K := fun vs => K (v :: vs)) (K' := fun vs => K' (v :: vs)) (fun vs => hk _) (rs := r) h
   | need p v H' => rw [hr] at h; exact ⟨h.1, evRes_mono (K := fun vs => K (v :: vs)) (K' := fun vs => K' (v :: vs)) (fun vs => hk _) (rs := r) h.2⟩
   | bad => rw [hr] at h; exact h.elim
  ·exact h.elim
def endK (tt : Nat → TI) (rs : List ResultVar) (v : V) : Exit → S → Prop := fun e s => ∃ s2, Gn 0 s s2 ∧ atEnd tt rs 0 v [] e s2
def again {α : Type} (G : α → S) (I : α → Prop) (μ : α → Nat) (n : Nat) (x : α) : S → Prop := fun s => ∃ y, I y ∧ μ y < μ x ∧ Gn n s (G y)
theorem endK.ret {rs : List ResultVar} {v : V} (h : evRes tt rs s.tm s.hp fun vs => retV vs = v) (hv : v.bel 0 = true) : endK tt rs v .ret s :=
 ⟨s, Gn.refl _ _, by
  simp only [atEnd, List.nil_append, List.length_nil, Nat.le_refl, hv, belObs, and_self, and_true, true_and, exists_eq']
  exact h⟩
theorem endK.normal {rs : List ResultVar} {v : V} (h : evRes tt rs s.tm s.hp fun vs => retV vs = v) (hv : v.bel 0 = true) : endK tt rs v .normal s :=
 ⟨s, Gn.refl _ _, by
  simp only [atEnd, List.nil_append, List.length_nil, Nat.le_refl, hv, belObs, and_self, and_true, true_and, exists_eq']
  exact h⟩
theorem endK.gn {rs : List ResultVar} {v : V} {e : Exit} {s2 : S} (g : Gn 0 s s2) (h : endK tt rs v e s2) : endK tt rs v e s := by
 obtain ⟨s3, g3, h3⟩ := h
 exact ⟨s3, g.trans g3, h3⟩
def endJ (tt : Nat → TI) (rs : List ResultVar) (v : V) (J : List Ob) : Exit → S → Prop := fun e s => ∃ s2, Gn 0 s s2 ∧ atEnd tt rs 0 v J e s2
theorem endJ.ret {rs : List ResultVar} {v : V} {J : List Ob} (J2 : List Ob) (hJ : s.hp = J ++ J2) (h : evRes tt rs s.tm s.hp fun vs => retV vs = v) (hv : v.bel J.length = true) (hb : belObs J.length J = true) : endJ tt rs v J .ret s :=
 ⟨s, Gn.refl _ _, by
  simp only [atEnd, hv, hb, Nat.zero_le, true_and, and_true]
  refine evRes_mono (fun vs hvs => ⟨hvs, J2, hJ⟩) h⟩
theorem endJ.gn {rs : List ResultVar} {v : V} {J : List Ob} {e : Exit} {s2 : S} (g : Gn 0 s s2) (h : endJ tt rs v J e s2) : endJ tt rs v J e s := by
 obtain ⟨s3, g3, h3⟩ := h
 exact ⟨s3, g.trans g3, h3⟩
theorem PCJ.walk (tok : TOK P tt) (hm : P.follows .mixedOrders = true) (cfg : Cfg) {n : Nat} {fn : Func} {c : Code} {args : List V} {v : V} {J : List Ob} (hf : P.funcs[n]? = some fn) (hb : fn.body = some c)
  (hc : ∀ (vals : Array Value) (w : World), (callFunc n vals).run P w = .ok (.enter n vals) w) (ha : belAll 0 args = true)
  (h : ev P tt cfg c (endJ tt fn.results.toList v J) ⟨args ++ List.replicate (fn.ntmps - args.length) .dead, []⟩) : PCJ P n args v J :=
 GCall.frame (GCall.of_T tok hf hb hc (T.aft (ev_sound tok hm c h))) ha
theorem callO.pcj {n : Nat} {args a b : List V} {v : V} {J : List Ob} (h : PCJ P n (a ++ args ++ b) v J) (k : KV (v.sh H.length) (H ++ shOs H.length J)) : callO P (.fn (.func n) a b) args H KV := ⟨_, _, .inl (h H), k⟩
theorem PC.walk (tok : TOK P tt) (hm : P.follows .mixedOrders = true) (cfg : Cfg) {n : Nat} {fn : Func} {c : Code} {args : List V} {v : V} (hf : P.funcs[n]? = some fn) (hb : fn.body = some c)
  (hc : ∀ (vals : Array Value) (w : World), (callFunc n vals).run P w = .ok (.enter n vals) w) (ha : belAll 0 args = true) (hv : v.bel 0 = true)
  (h : ev P tt cfg c (endK tt fn.results.toList v) ⟨args ++ List.replicate (fn.ntmps - args.length) .dead, []⟩) : PC P n args v :=
 PC.of_T tok hf hb hc ha (T.aft (ev_sound tok hm c h)) hv
theorem T.rounds (tok : TOK P tt) (hm : P.follows .mixedOrders = true) (cfg : Cfg) {c : Code} {α : Type} (G : α → S) (I : α → Prop) (μ : α → Nat) (x0 : α) (h0 : Gn s.hp.length s (G x0)) (hI : I x0)
  (round : ∀ x, I x → ev P tt cfg c (andThen (again G I μ s.hp.length x) Q) (G x)) : Lp P c Q s :=
 ⟨T.loopN G I μ x0 h0 hI fun x hx => ev_sound tok hm c (round x hx)⟩
theorem T.lp (tok : TOK P tt) (hm : P.follows .mixedOrders = true) (cfg : Cfg) {c : Code} {α : Type} {t0 : List V} {h0 : List Ob} (md : α → List V → List V) (Hs : List Ob → α → List Ob) (I : α → Prop) (μ : α → Nat) (x0 : α)
  (hI : I x0) (he : Gn h0.length ⟨t0, h0⟩ ⟨md x0 t0, Hs h0 x0⟩)
  (round : ∀ x, I x → ev P tt cfg c (andThen (again (fun x => ⟨md x t0, Hs h0 x⟩) I μ h0.length x) Q) ⟨md x t0, Hs h0 x⟩) : Lp P c Q ⟨t0, h0⟩ :=
 T.rounds tok hm cfg (fun x => ⟨md x t0, Hs h0 x⟩) I μ x0 he hI round
theorem callG.pc1 {n : Nat} {args a b : List V} {v : V} (h : PC P n (a ++ args ++ b) v) (k : KG v) : callG P g (.fn (.func n) a b) args H KG := ⟨v, fun _ H' _ => .inl (h H'), k⟩
theorem callX.pcj {n : Nat} {args a b : List V} {v : V} {J : List Ob} (h : PCJ P n (a ++ args ++ b) v J) (hu : noUn (shOs H.length J)) (k : KV (v.sh H.length) (H ++ shOs H.length J)) : callX P (.fn (.func n) a b) args H KV :=
 ⟨_, _, hu, fun H' hl _ => by rw [← hl]; exact .inl (h H'), k⟩
theorem callO.ext {n : Nat} {args a b : List V} {v : V} (h : XCall P n (a ++ args ++ b) v) (k : KV v H) : callO P (.fn (.func n) a b) args H KV := ⟨v, H, .inr ⟨rfl, h⟩, k⟩
theorem callG.ext {n : Nat} {args a b : List V} {v : V} (h : XCall P n (a ++ args ++ b) v) (k : KG v) : callG P g (.fn (.func n) a b) args H KG := ⟨v, fun _ H' _ => .inr ⟨rfl, h⟩, k⟩
theorem callO.gc {n : Nat} {args a b : List V} {v : V} {H' : List Ob} (h : GCall P n (a ++ args ++ b) H v H') (k : KV v H') : callO P (.fn (.func n) a b) args H KV := ⟨v, H', .inl h, k⟩
end
attribute [push_cast] nrm_ap putK_ap putKt_ap putG_ap putH_ap keepK_ap nxt_ap nxtD_ap brK_bool br2_open ev_skip ev_region
 ev_draw drw_none drw_some evI_nil evI_cons evIo_some nxtI_ap ordOf_nil ordOf_cons ev_seq ev_cond ev_block
 ev_loop ev_exit ev_ret ev_label evOps_nil evOps_cons evOpsD_nil evOpsD_cons evOp_none evOp_some evOpD_none evOpD_some
 grd_some frk_ot frk_of ung_pure ung_eff grdD_some frkD_ot frkD_of resv_nil resv_cons rsc_t rsc_f
 unb_nil unb_cons ubc_t ubc_f look_s rsK_some isUn_un rX_alloc rX_box rX_makeSlice rX_store rX_invoke
 rXb_f rXb_t rX_append rX_cap rX_clear rX_close rX_complex rX_copy rX_delete rX_imag rX_len rX_make
 rX_max rX_min rX_new rX_panic rX_print rX_println rX_real rX_recover rX_value rXv_f rXv_t keepE_ap
 rX_mapUpdate rX_insert rX_makeMap a2_mapUpdate a2_insert a2_makeMap a2_lookup rX_buildSlice isA2_mk a2_alloc a2_box a2_makeSlice
 a2_move a2_assign a2_load a2_store a2_nilCheck a2_binOp a2_unOp a2_convert a2_makeInterface a2_fieldAddr a2_field a2_indexAddr
 a2_index a2_extract a2_typeAssert a2_pick a2_build a2_buildSlice a2_makeFunc a2_slice a2_call rO_move rG_move rO_assign
 rG_assign rO_alloc rG_alloc rO_box rG_box rO_load rG_load rO_store rG_store rO_nilCheck rG_nilCheck rO_binOp
 rG_binOp rO_unOp rG_unOp rO_convert rG_convert rO_makeInterface rG_makeInterface rO_makeSlice rG_makeSlice rO_fieldAddr rG_fieldAddr rO_field
 rG_field rO_indexAddr rG_indexAddr rO_index rG_index rO_extract rG_extract rO_typeAssert rG_typeAssert rO_lookup rG_lookup rO_mapUpdate
 rG_mapUpdate rO_insert rG_insert rO_build rG_build rO_buildSlice rG_buildSlice rO_makeFunc rG_makeFunc rO_slice rG_slice rO_makeMap
 rG_makeMap getV_succ getV_cons getV_zero List.drop_succ_cons List.drop_zero List.take_succ_cons List.take_zero List.flatten_cons List.flatten_nil List.append_nil List.all_cons
 List.all_nil List.length_append Option.getD_none Option.getD_some gvl_some gvv rO_pick rG_pick frzK_f frzK_t frzC_n frzC_s
 frzS_p frzS_f keepsC_n rO_builtin rG_builtin rO_value rG_value pickR_b pickR_o pk2_open pkB_bool pkB_opt
 then_ok then_need same_ok same_need imp_eq st_int st_bool st_str st_nilp st_nili st_nilf st_nilm
 st_agg st_tup st_sl st_fp st_buf st_ptr st_mp st_ifc st_fn st_opt op_move op_assign
 op_alloc op_box op_load op_store op_nilCheck op_binOp op_unOp op_convert op_makeInterface op_makeSlice op_fieldAddr op_field
 op_indexAddr op_index op_extract op_typeAssert op_lookup op_mapUpdate op_insert op_makeMap op_pick op_build op_buildSlice op_makeFunc
 op_slice0 op_slice1 op_slice2 op_slice3 op_slice4 op_slice5 op_builtin op_value op_invoke rO_invoke getT_0 putT_0
 getO_0 getT_1 putT_1 getO_1 getT_2 putT_2 getO_2 getT_3 putT_3 getO_3 getT_4 putT_4
 getO_4 getT_5 putT_5 getO_5 getT_6 putT_6 getO_6 getT_7 putT_7 getO_7 getT_8 putT_8
 getO_8 getT_9 putT_9 getO_9 getT_10 putT_10 getO_10 getT_11 putT_11 getO_11 getT_12 putT_12
 getO_12 getT_13 putT_13 getO_13 getT_14 putT_14 getO_14 getT_15 putT_15 getO_15 getT_N putT_N
 getO_N os_int os_bool os_str os_nilp os_nili os_nilf os_nilm os_agg os_tup os_sl os_fp
 os_buf os_ptr os_mp os_ifc os_fn os_opt os_nil Nat.zero_add Nat.add_zero V.sh shs Ob.sh
 shOs shs_ok capMax kp_z kp_s dd_z dd_s sv_s nl_s i64_ok u8_ok u64_ok
 ile_ok ilt_ok ile_no ilt_no nle_ok nlt_ok nle_no nlt_no neq_ok neq_no ieq_ok ieq_no
 ibeq_t ibeq_f ibne_t ibne_f beq_t beq_f beq_self_eq_true bne_self_eq_false List.length_drop List.length_map List.length_take List.length_replicate
 List.length_set opR assertR asrT evT putT_n putV List.map_cons List.map_nil V.cok V.one V.cells
 place List.replicate List.cons_append List.nil_append List.length_cons List.length_nil andThen_normal andThen_exit andThen_ret inBlk_normal inBlk_exit inBlk_ret
 ofConst ofScal isE isEff memN ldT ldR stR getO setO fldAR fldR
 tpos TI.known Nat.blt Nat.ble Nat.beq binT ifcEq ifcS binR kindEq lenR lenT
 builtinR mkMapR mapAt lookR updR delR copyT copyR appendR appR srcC srcP
 elemK elemLd fldT idxAR idxR unR convR isBS bytesR toBytes u8s sliceR
 slR bSliceR makeR coks partsT zipI mkV eqF eqN fillP placeOf repC
 List.getElem?_cons_succ List.getElem?_cons_zero lenOK_iff ones gval gw Int.toNat_natCast beq_iff_eq bne_iff_ne beq_eq_false_iff_ne bne_eq_false_iff_eq ne_eq
 Bool.not_eq_true' Bool.not_eq_false' true_implies forall_const imp_self and_true true_and and_self Nat.le_refl decide_eq_true_eq decide_eq_false_iff_not Int.ofNat_lt
 Int.ofNat_le Int.natCast_nonneg Option.isSome_none Option.isSome_some Bool.true_and Bool.and_true Bool.not_true Bool.not_false false_implies Bool.false_eq_true Bool.true_eq_false decide_true
 decide_false not_false_eq_true not_true_eq_false Bool.and_false Bool.false_and Bool.or_true Bool.true_or Bool.or_false Bool.false_or
attribute [push_cast 1100] br2_true br2_false frk_tt frk_tf frk_f frkD_tt frkD_tf frkD_f pk2_true pk2_false imp_true
theorem vms0 {P Q : Prop} (q : Q) (h : P = Q := by simp (maxSteps := 2000000) -implicitDefEqProofs +contextual (disch := first | assumption | omega | decide +kernel) only [push_cast, ↓capI, seval, Nat.reduceLeDiff, Nat.reduceEqDiff, reduceCtorEq, ↓reduceIte]; exact rfl) : P := h.mpr q
theorem vms1 {P F0 : Prop} {Q : F0 → Prop} (f0 : F0) (q : Q f0) (h : ∀ (f0 : F0), P = Q f0 := by intro h0; simp (maxSteps := 2000000) -implicitDefEqProofs +contextual (disch := first | assumption | omega | decide +kernel) only [push_cast, ↓capI, seval, Nat.reduceLeDiff, Nat.reduceEqDiff, reduceCtorEq, ↓reduceIte, h0]; exact rfl) : P := (h f0).mpr q
theorem vms2 {P F0 F1 : Prop} {Q : F0 → F1 → Prop} (f0 : F0) (f1 : F1) (q : Q f0 f1) (h : ∀ (f0 : F0) (f1 : F1), P = Q f0 f1 := by intro h0 h1; simp (maxSteps := 2000000) -implicitDefEqProofs +contextual (disch := first | assumption | omega | decide +kernel) only [push_cast, ↓capI, seval, Nat.reduceLeDiff, Nat.reduceEqDiff, reduceCtorEq, ↓reduceIte, h0, h1]; exact rfl) : P := (h f0 f1).mpr q
theorem vms3 {P F0 F1 F2 : Prop} {Q : F0 → F1 → F2 → Prop} (f0 : F0) (f1 : F1) (f2 : F2) (q : Q f0 f1 f2) (h : ∀ (f0 : F0) (f1 : F1) (f2 : F2), P = Q f0 f1 f2 := by intro h0 h1 h2; simp (maxSteps := 2000000) -implicitDefEqProofs +contextual (disch := first | assumption | omega | decide +kernel) only [push_cast, ↓capI, seval, Nat.reduceLeDiff, Nat.reduceEqDiff, reduceCtorEq, ↓reduceIte, h0, h1, h2]; exact rfl) : P := (h f0 f1 f2).mpr q
theorem vms4 {P F0 F1 F2 F3 : Prop} {Q : F0 → F1 → F2 → F3 → Prop} (f0 : F0) (f1 : F1) (f2 : F2) (f3 : F3) (q : Q f0 f1 f2 f3) (h : ∀ (f0 : F0) (f1 : F1) (f2 : F2) (f3 : F3), P = Q f0 f1 f2 f3 := by intro h0 h1 h2 h3; simp (maxSteps := 2000000) -implicitDefEqProofs +contextual (disch := first | assumption | omega | decide +kernel) only [push_cast, ↓capI, seval, Nat.reduceLeDiff, Nat.reduceEqDiff, reduceCtorEq, ↓reduceIte, h0, h1, h2, h3]; exact rfl) : P := (h f0 f1 f2 f3).mpr q
theorem vms5 {P F0 F1 F2 F3 F4 : Prop} {Q : F0 → F1 → F2 → F3 → F4 → Prop} (f0 : F0) (f1 : F1) (f2 : F2) (f3 : F3) (f4 : F4) (q : Q f0 f1 f2 f3 f4) (h : ∀ (f0 : F0) (f1 : F1) (f2 : F2) (f3 : F3) (f4 : F4), P = Q f0 f1 f2 f3 f4 := by intro h0 h1 h2 h3 h4; simp (maxSteps := 2000000) -implicitDefEqProofs +contextual (disch := first | assumption | omega | decide +kernel) only [push_cast, ↓capI, seval, Nat.reduceLeDiff, Nat.reduceEqDiff, reduceCtorEq, ↓reduceIte, h0, h1, h2, h3, h4]; exact rfl) : P := (h f0 f1 f2 f3 f4).mpr q
theorem vms6 {P F0 F1 F2 F3 F4 F5 : Prop} {Q : F0 → F1 → F2 → F3 → F4 → F5 → Prop} (f0 : F0) (f1 : F1) (f2 : F2) (f3 : F3) (f4 : F4) (f5 : F5) (q : Q f0 f1 f2 f3 f4 f5) (h : ∀ (f0 : F0) (f1 : F1) (f2 : F2) (f3 : F3) (f4 : F4) (f5 : F5), P = Q f0 f1 f2 f3 f4 f5 := by intro h0 h1 h2 h3 h4 h5; simp (maxSteps := 2000000) -implicitDefEqProofs +contextual (disch := first | assumption | omega | decide +kernel) only [push_cast, ↓capI, seval, Nat.reduceLeDiff, Nat.reduceEqDiff, reduceCtorEq, ↓reduceIte, h0, h1, h2, h3, h4, h5]; exact rfl) : P := (h f0 f1 f2 f3 f4 f5).mpr q
theorem vms7 {P F0 F1 F2 F3 F4 F5 F6 : Prop} {Q : F0 → F1 → F2 → F3 → F4 → F5 → F6 → Prop} (f0 : F0) (f1 : F1) (f2 : F2) (f3 : F3) (f4 : F4) (f5 : F5) (f6 : F6) (q : Q f0 f1 f2 f3 f4 f5 f6) (h : ∀ (f0 : F0) (f1 : F1) (f2 : F2) (f3 : F3) (f4 : F4) (f5 : F5) (f6 : F6), P = Q f0 f1 f2 f3 f4 f5 f6 := by intro h0 h1 h2 h3 h4 h5 h6; simp (maxSteps := 2000000) -implicitDefEqProofs +contextual (disch := first | assumption | omega | decide +kernel) only [push_cast, ↓capI, seval, Nat.reduceLeDiff, Nat.reduceEqDiff, reduceCtorEq, ↓reduceIte, h0, h1, h2, h3, h4, h5, h6]; exact rfl) : P := (h f0 f1 f2 f3 f4 f5 f6).mpr q
theorem vms8 {P F0 F1 F2 F3 F4 F5 F6 F7 : Prop} {Q : F0 → F1 → F2 → F3 → F4 → F5 → F6 → F7 → Prop} (f0 : F0) (f1 : F1) (f2 : F2) (f3 : F3) (f4 : F4) (f5 : F5) (f6 : F6) (f7 : F7) (q : Q f0 f1 f2 f3 f4 f5 f6 f7) (h : ∀ (f0 : F0) (f1 : F1) (f2 : F2) (f3 : F3) (f4 : F4) (f5 : F5) (f6 : F6) (f7 : F7), P = Q f0 f1 f2 f3 f4 f5 f6 f7 := by intro h0 h1 h2 h3 h4 h5 h6 h7; simp (maxSteps := 2000000) -implicitDefEqProofs +contextual (disch := first | assumption | omega | decide +kernel) only [push_cast, ↓capI, seval, Nat.reduceLeDiff, Nat.reduceEqDiff, reduceCtorEq, ↓reduceIte, h0, h1, h2, h3, h4, h5, h6, h7]; exact rfl) : P := (h f0 f1 f2 f3 f4 f5 f6 f7).mpr q
theorem vms9 {P F0 F1 F2 F3 F4 F5 F6 F7 F8 : Prop} {Q : F0 → F1 → F2 → F3 → F4 → F5 → F6 → F7 → F8 → Prop} (f0 : F0) (f1 : F1) (f2 : F2) (f3 : F3) (f4 : F4) (f5 : F5) (f6 : F6) (f7 : F7) (f8 : F8) (q : Q f0 f1 f2 f3 f4 f5 f6 f7 f8) (h : ∀ (f0 : F0) (f1 : F1) (f2 : F2) (f3 : F3) (f4 : F4) (f5 : F5) (f6 : F6) (f7 : F7) (f8 : F8), P = Q f0 f1 f2 f3 f4 f5 f6 f7 f8 := by intro h0 h1 h2 h3 h4 h5 h6 h7 h8; simp (maxSteps := 2000000) -implicitDefEqProofs +contextual (disch := first | assumption | omega | decide +kernel) only [push_cast, ↓capI, seval, Nat.reduceLeDiff, Nat.reduceEqDiff, reduceCtorEq, ↓reduceIte, h0, h1, h2, h3, h4, h5, h6, h7, h8]; exact rfl) : P := (h f0 f1 f2 f3 f4 f5 f6 f7 f8).mpr q
theorem vms10 {P F0 F1 F2 F3 F4 F5 F6 F7 F8 F9 : Prop} {Q : F0 → F1 → F2 → F3 → F4 → F5 → F6 → F7 → F8 → F9 → Prop} (f0 : F0) (f1 : F1) (f2 : F2) (f3 : F3) (f4 : F4) (f5 : F5) (f6 : F6) (f7 : F7) (f8 : F8) (f9 : F9) (q : Q f0 f1 f2 f3 f4 f5 f6 f7 f8 f9) (h : ∀ (f0 : F0) (f1 : F1) (f2 : F2) (f3 : F3) (f4 : F4) (f5 : F5) (f6 : F6) (f7 : F7) (f8 : F8) (f9 : F9), P = Q f0 f1 f2 f3 f4 f5 f6 f7 f8 f9 := by intro h0 h1 h2 h3 h4 h5 h6 h7 h8 h9; simp (maxSteps := 2000000) -implicitDefEqProofs +contextual (disch := first | assumption | omega | decide +kernel) only [push_cast, ↓capI, seval, Nat.reduceLeDiff, Nat.reduceEqDiff, reduceCtorEq, ↓reduceIte, h0, h1, h2, h3, h4, h5, h6, h7, h8, h9]; exact rfl) : P := (h f0 f1 f2 f3 f4 f5 f6 f7 f8 f9).mpr q
theorem vms11 {P F0 F1 F2 F3 F4 F5 F6 F7 F8 F9 F10 : Prop} {Q : F0 → F1 → F2 → F3 → F4 → F5 → F6 → F7 → F8 → F9 → F10 → Prop} (f0 : F0) (f1 : F1) (f2 : F2) (f3 : F3) (f4 : F4) (f5 : F5) (f6 : F6) (f7 : F7) (f8 : F8) (f9 : F9) (f10 : F10) (q : Q f0 f1 f2 f3 f4 f5 f6 f7 f8 f9 f10) (h : ∀ (f0 : F0) (f1 : F1) (f2 : F2) (f3 : F3) (f4 : F4) (f5 : F5) (f6 : F6) (f7 : F7) (f8 : F8) (f9 : F9) (f10 : F10), P = Q f0 f1 f2 f3 f4 f5 f6 f7 f8 f9 f10 := by intro h0 h1 h2 h3 h4 h5 h6 h7 h8 h9 h10; simp (maxSteps := 2000000) -implicitDefEqProofs +contextual (disch := first | assumption | omega | decide +kernel) only [push_cast, ↓capI, seval, Nat.reduceLeDiff, Nat.reduceEqDiff, reduceCtorEq, ↓reduceIte, h0, h1, h2, h3, h4, h5, h6, h7, h8, h9, h10]; exact rfl) : P := (h f0 f1 f2 f3 f4 f5 f6 f7 f8 f9 f10).mpr q
theorem vms12 {P F0 F1 F2 F3 F4 F5 F6 F7 F8 F9 F10 F11 : Prop} {Q : F0 → F1 → F2 → F3 → F4 → F5 → F6 → F7 → F8 → F9 → F10 → F11 → Prop} (f0 : F0) (f1 : F1) (f2 : F2) (f3 : F3) (f4 : F4) (f5 : F5) (f6 : F6) (f7 : F7) (f8 : F8) (f9 : F9) (f10 : F10) (f11 : F11) (q : Q f0 f1 f2 f3 f4 f5 f6 f7 f8 f9 f10 f11) (h : ∀ (f0 : F0) (f1 : F1) (f2 : F2) (f3 : F3) (f4 : F4) (f5 : F5) (f6 : F6) (f7 : F7) (f8 : F8) (f9 : F9) (f10 : F10) (f11 : F11), P = Q f0 f1 f2 f3 f4 f5 f6 f7 f8 f9 f10 f11 := by intro h0 h1 h2 h3 h4 h5 h6 h7 h8 h9 h10 h11; simp (maxSteps := 2000000) -implicitDefEqProofs +contextual (disch := first | assumption | omega | decide +kernel) only [push_cast, ↓capI, seval, Nat.reduceLeDiff, Nat.reduceEqDiff, reduceCtorEq, ↓reduceIte, h0, h1, h2, h3, h4, h5, h6, h7, h8, h9, h10, h11]; exact rfl) : P := (h f0 f1 f2 f3 f4 f5 f6 f7 f8 f9 f10 f11).mpr q
theorem vms13 {P F0 F1 F2 F3 F4 F5 F6 F7 F8 F9 F10 F11 F12 : Prop} {Q : F0 → F1 → F2 → F3 → F4 → F5 → F6 → F7 → F8 → F9 → F10 → F11 → F12 → Prop} (f0 : F0) (f1 : F1) (f2 : F2) (f3 : F3) (f4 : F4) (f5 : F5) (f6 : F6) (f7 : F7) (f8 : F8) (f9 : F9) (f10 : F10) (f11 : F11) (f12 : F12) (q : Q f0 f1 f2 f3 f4 f5 f6 f7 f8 f9 f10 f11 f12) (h : ∀ (f0 : F0) (f1 : F1) (f2 : F2) (f3 : F3) (f4 : F4) (f5 : F5) (f6 : F6) (f7 : F7) (f8 : F8) (f9 : F9) (f10 : F10) (f11 : F11) (f12 : F12), P = Q f0 f1 f2 f3 f4 f5 f6 f7 f8 f9 f10 f11 f12 := by intro h0 h1 h2 h3 h4 h5 h6 h7 h8 h9 h10 h11 h12; simp (maxSteps := 2000000) -implicitDefEqProofs +contextual (disch := first | assumption | omega | decide +kernel) only [push_cast, ↓capI, seval, Nat.reduceLeDiff, Nat.reduceEqDiff, reduceCtorEq, ↓reduceIte, h0, h1, h2, h3, h4, h5, h6, h7, h8, h9, h10, h11, h12]; exact rfl) : P := (h f0 f1 f2 f3 f4 f5 f6 f7 f8 f9 f10 f11 f12).mpr q
theorem vms14 {P F0 F1 F2 F3 F4 F5 F6 F7 F8 F9 F10 F11 F12 F13 : Prop} {Q : F0 → F1 → F2 → F3 → F4 → F5 → F6 → F7 → F8 → F9 → F10 → F11 → F12 → F13 → Prop} (f0 : F0) (f1 : F1) (f2 : F2) (f3 : F3) (f4 : F4) (f5 : F5) (f6 : F6) (f7 : F7) (f8 : F8) (f9 : F9) (f10 : F10) (f11 : F11) (f12 : F12) (f13 : F13) (q : Q f0 f1 f2 f3 f4 f5 f6 f7 f8 f9 f10 f11 f12 f13) (h : ∀ (f0 : F0) (f1 : F1) (f2 : F2) (f3 : F3) (f4 : F4) (f5 : F5) (f6 : F6) (f7 : F7) (f8 : F8) (f9 : F9) (f10 : F10) (f11 : F11) (f12 : F12) (f13 : F13), P = Q f0 f1 f2 f3 f4 f5 f6 f7 f8 f9 f10 f11 f12 f13 := by intro h0 h1 h2 h3 h4 h5 h6 h7 h8 h9 h10 h11 h12 h13; simp (maxSteps := 2000000) -implicitDefEqProofs +contextual (disch := first | assumption | omega | decide +kernel) only [push_cast, ↓capI, seval, Nat.reduceLeDiff, Nat.reduceEqDiff, reduceCtorEq, ↓reduceIte, h0, h1, h2, h3, h4, h5, h6, h7, h8, h9, h10, h11, h12, h13]; exact rfl) : P := (h f0 f1 f2 f3 f4 f5 f6 f7 f8 f9 f10 f11 f12 f13).mpr q
theorem vms15 {P F0 F1 F2 F3 F4 F5 F6 F7 F8 F9 F10 F11 F12 F13 F14 : Prop} {Q : F0 → F1 → F2 → F3 → F4 → F5 → F6 → F7 → F8 → F9 → F10 → F11 → F12 → F13 → F14 → Prop} (f0 : F0) (f1 : F1) (f2 : F2) (f3 : F3) (f4 : F4) (f5 : F5) (f6 : F6) (f7 : F7) (f8 : F8) (f9 : F9) (f10 : F10) (f11 : F11) (f12 : F12) (f13 : F13) (f14 : F14) (q : Q f0 f1 f2 f3 f4 f5 f6 f7 f8 f9 f10 f11 f12 f13 f14) (h : ∀ (f0 : F0) (f1 : F1) (f2 : F2) (f3 : F3) (f4 : F4) (f5 : F5) (f6 : F6) (f7 : F7) (f8 : F8) (f9 : F9) (f10 : F10) (f11 : F11) (f12 : F12) (f13 : F13) (f14 : F14), P = Q f0 f1 f2 f3 f4 f5 f6 f7 f8 f9 f10 f11 f12 f13 f14 := by intro h0 h1 h2 h3 h4 h5 h6 h7 h8 h9 h10 h11 h12 h13 h14; simp (maxSteps := 2000000) -implicitDefEqProofs +contextual (disch := first | assumption | omega | decide +kernel) only [push_cast, ↓capI, seval, Nat.reduceLeDiff, Nat.reduceEqDiff, reduceCtorEq, ↓reduceIte, h0, h1, h2, h3, h4, h5, h6, h7, h8, h9, h10, h11, h12, h13, h14]; exact rfl) : P := (h f0 f1 f2 f3 f4 f5 f6 f7 f8 f9 f10 f11 f12 f13 f14).mpr q
theorem Gn.canonA {n : Nat} {tm tm' : List V} {hp H J : List Ob} (hh : hp = H ++ J) (h : wk tm tm') (hn : n ≤ H.length := by simp) (h1 : belAll H.length tm' = true := by simp) (h2 : belObs H.length H = true := by simp) : Gn n ⟨tm, hp⟩ ⟨tm', H⟩ := Gn.canon hh h hn h1 h2
theorem endK.retA {tt : Nat → TI} {s : S} {rs : List ResultVar} {v : V} (h : evRes tt rs s.tm s.hp fun vs => retV vs = v) (hv : v.bel 0 = true := by first | rfl | simp) : endK tt rs v .ret s := endK.ret h hv
end Go.Vm
namespace Go.Vm
variable [GlobTab]
def TypF (T : Nat → List V → Prop) : List (Nat × Nat) → List V → Prop
 | [], xs => xs = []
 | (_, ft) :: fs, xs => ∃ c r, xs = c ++ r ∧ T ft c ∧ TypF T fs r
def Typ (tt : Nat → TI) : Nat → Nat → List V → Prop
 | 0, _, _ => False
 | n + 1, t, xs =>
  match (tt t).k with
  | .bool => ∃ b, xs = [.bool b]
  | .int k => ∃ i, xs = [.int k i] ∧ k.min ≤ i ∧ i ≤ k.max
  | .str => ∃ s, xs = [.str s] ∧ s.length ≤ maxLen
  | .slice e => ∃ (nb : Bool) (l : List (List V)), xs = [.sl nb l.flatten l.length] ∧ l.length ≤ maxLen ∧ (nb = true → l = []) ∧ ∀ c ∈ l, Typ tt n e c
  | .struct fs => TypF (Typ tt n) fs xs
  | .arr k e => ∃ l : List (List V), xs = l.flatten ∧ l.length = k ∧ ∀ c ∈ l, Typ tt n e c
  | _ => False
def contig (tt : Nat → TI) : List (Nat × Nat) → Nat → Nat → Bool
 | [], off, total => Nat.beq off total
 | (o, ft) :: fs, off, total => Nat.beq o off && contig tt fs (off + (tt ft).size) total
def shape (tt : Nat → TI) : Nat → Nat → Bool
 | 0, _ => false
 | n + 1, t =>
  match (tt t).k with
  | .bool => true
  | .int _ => true
  | .str => true
  | .slice e => Nat.blt 0 (tt e).size && shape tt n e
  | .struct fs => contig tt fs 0 (tt t).size && fs.all fun f => shape tt n f.2
  | .arr k e => Nat.beq (k * (tt e).size) (tt t).size && shape tt n e
  | _ => false
section
variable {P : Program} {tt : Nat → TI} {w : World} {H : Type} {enc : TypeId × Value → H}
theorem shape_known {n t : Nat} (h : shape tt n t = true) : (tt t).k ≠ .other := by
 cases n with
 | zero => simp [shape] at h
 | succ n =>
  intro e
  simp only [shape, e] at h
  simp at h
theorem TOK.cellsOf (tok : TOK P tt) {t : Nat} (h : (tt t).k ≠ .other) : P.cellsOf t = (tt t).size := by
 obtain ⟨i, z, h1, h2, _⟩ := (tok t h).info
 simp [Program.cellsOf, h1, h2]
theorem lt_of_cell {a : Addr} {v : Value} (h : w.cell? a = some v) : a.block < w.heap.size := by
 unfold World.cell? at h
 split at h
 ·rename_i e; exact (Array.getElem?_eq_some_iff.1 e).1
 ·simp at h
theorem flat_at {α : Type} {k : Nat} : ∀ {l : List (List α)} (_ : ∀ c ∈ l, c.length = k) (_ : 0 < k) {i : Nat} {x : α}, l.flatten[i]? = some x → ∃ c, l[i / k]? = some c ∧ c[i % k]? = some x
 | [], _, _, i, x, h => by simp at h
 | c :: l, hl, hk, i, x, h => by
  have hc : c.length = k := hl c (by simp)
  rw [List.flatten_cons, List.getElem?_append] at h
  split at h
  ·rename_i hi
   rw [hc] at hi
   refine ⟨c, ?_, by rw [Nat.mod_eq_of_lt hi]; exact h⟩
   rw [Nat.div_eq_of_lt hi]; rfl
  ·rename_i hi
   rw [hc] at h hi
   obtain ⟨c', h1, h2⟩ := flat_at (fun c h => hl c (by simp [h])) hk h
   refine ⟨c', ?_, ?_⟩
   ·rw [Nat.div_eq_sub_div hk (by omega)]; simpa using h1
   ·rw [Nat.mod_eq_sub_mod (by omega)]; exact h2
inductive All2 {α β : Type} (Q : α → β → Prop) : List α → List β → Prop
 | nil : All2 Q [] []
 | cons {a : α} {b : β} {l : List α} {m : List β} : Q a b → All2 Q l m → All2 Q (a :: l) (b :: m)
theorem VRs.flat {own : Nat → Prop} : ∀ {l : List (List V)} {m : List (List Value)}, All2 (fun x v => VRs own w [] x v) l m → VRs own w [] l.flatten m.flatten
 | _, _, .nil => by simp [VRs]
 | _, _, .cons h1 h2 => by simp only [List.flatten_cons]; exact h1.append (VRs.flat h2)
theorem choose_list {α β : Type} {Q : α → β → Prop} : ∀ {l : List α}, (∀ a ∈ l, ∃ b, Q a b) → ∃ m : List β, All2 (fun b a => Q a b) m l
 | [], _ => ⟨[], .nil⟩
 | a :: l, h => by
  obtain ⟨b, hb⟩ := h a (by simp)
  obtain ⟨m, hm⟩ := choose_list (l := l) (fun a h' => h a (List.mem_cons_of_mem _ h'))
  exact ⟨b :: m, .cons hb hm⟩
theorem forall2_mem {α β : Type} {Q : α → β → Prop} : ∀ {l : List α} {m : List β}, All2 Q l m → ∀ a ∈ l, ∃ b ∈ m, Q a b
 | _, _, .cons h t, a, ha => by
  rcases List.mem_cons.1 ha with rfl | ha
  ·exact ⟨_, by simp, h⟩
  ·obtain ⟨b, h1, h2⟩ := forall2_mem t a ha
   exact ⟨b, by simp [h1], h2⟩
theorem forall2_mono {α β : Type} {Q R : α → β → Prop} (f : ∀ a b, Q a b → R a b) : ∀ {l : List α} {m : List β}, All2 Q l m → All2 R l m
 | _, _, .nil => .nil
 | _, _, .cons h t => .cons (f _ _ h) (forall2_mono f t)
theorem forall2_len {α β : Type} {Q : α → β → Prop} : ∀ {l : List α} {m : List β}, All2 Q l m → l.length = m.length
 | _, _, .nil => rfl
 | _, _, .cons _ t => by simp [forall2_len t]
theorem open_fields (tok : TOK P tt) {m n : Nat} (ih : ∀ {t : Nat} {cs : List Value} {x : DataW H × List MemPlace}, shape tt m t = true → DataW.trod enc P w 0 (fun _ => true) true n t cs = some x →
   ∃ xs, VRs (Own (fun _ => False) []) w [] xs cs ∧ Typ tt m t xs) {cs : List Value} :
  ∀ (fs : List Field) (off : Nat), contig tt (fs.map fun f => (f.offset, f.type)) off cs.length = true → (∀ f ∈ fs, shape tt m f.type = true) →
   (∀ f ∈ fs, ∃ x, DataW.trod enc P w 0 (fun _ => true) true n f.type ((cs.drop f.offset).take (P.cellsOf f.type)) = some x) → off ≤ cs.length →
   ∃ xs, VRs (Own (fun _ => False) []) w [] xs (cs.drop off) ∧ TypF (Typ tt m) (fs.map fun f => (f.offset, f.type)) xs
 | [], off, hc, _, _, hle => by
  simp only [List.map_nil, contig] at hc
  have hc := Nat.eq_of_beq_eq_true hc
  refine ⟨[], ?_, by simp [TypF]⟩
  rw [List.drop_of_length_le (by omega)]
  simp [VRs]
 | f :: fs, off, hc, hs, ht, hle => by
  simp only [List.map_cons, contig, Bool.and_eq_true] at hc
  obtain ⟨h1, h2⟩ := hc
  have h1 := Nat.eq_of_beq_eq_true h1
  obtain ⟨x, hx⟩ := ht f (by simp)
  have hsf := hs f (by simp)
  obtain ⟨c, h3, h4⟩ := ih hsf hx
  have hsz := tok.cellsOf (shape_known hsf)
  have hle2 : ∀ (fs : List (Nat × Nat)) (off total : Nat), contig tt fs off total = true → off ≤ total := by
   intro fs
   induction fs with
   | nil => intro off total h; simp only [contig] at h; have h := Nat.eq_of_beq_eq_true h; omega
   | cons p fs ih2 => intro off total h; simp only [contig, Bool.and_eq_true] at h; have := ih2 _ _ h.2; omega
  obtain ⟨r, h5, h6⟩ := open_fields tok ih fs (off + (tt f.type).size) h2 (fun g hg => hs g (by simp [hg])) (fun g hg => ht g (by simp [hg])) (hle2 _ _ _ h2)
  refine ⟨c ++ r, ?_, ⟨c, r, rfl, h4, h6⟩⟩
  have := h3.append h5
  rw [h1, hsz, ← List.drop_drop, List.take_append_drop] at this
  exact this
theorem open_elems (tok : TOK P tt) {m n e : Nat} (hse : shape tt m e = true) (ih : ∀ {t : Nat} {cs : List Value} {x : DataW H × List MemPlace}, shape tt m t = true → DataW.trod enc P w 0 (fun _ => true) true n t cs = some x →
   ∃ xs, VRs (Own (fun _ => False) []) w [] xs cs ∧ Typ tt m t xs) {cs : List Value} :
  ∀ (k off : Nat), off + k * (tt e).size = cs.length →
   (∀ i, i < k → ∃ x, DataW.trod enc P w 0 (fun _ => true) true n e ((cs.drop (off + i * (tt e).size)).take (tt e).size) = some x) →
   ∃ l : List (List V), VRs (Own (fun _ => False) []) w [] l.flatten (cs.drop off) ∧ l.length = k ∧ ∀ c ∈ l, Typ tt m e c
 | 0, off, hl, _ => by
  refine ⟨[], ?_, rfl, by simp⟩
  rw [List.drop_of_length_le (by omega)]
  simp [VRs]
 | k + 1, off, hl, ht => by
  obtain ⟨x, hx⟩ := ht 0 (Nat.succ_pos _)
  rw [Nat.zero_mul, Nat.add_zero] at hx
  obtain ⟨c, h3, h4⟩ := ih hse hx
  rw [Nat.add_mul, Nat.one_mul] at hl
  obtain ⟨l, h5, h6, h7⟩ := open_elems tok hse ih (cs := cs) k (off + (tt e).size) (by omega) (fun i hi => by
   have := ht (i + 1) (by omega)
   rw [Nat.add_mul, Nat.one_mul, show off + (i * (tt e).size + (tt e).size) = off + (tt e).size + i * (tt e).size by omega] at this
   exact this)
  refine ⟨c :: l, ?_, by simp [h6], fun d hd => by
   rcases List.mem_cons.1 hd with rfl | hd
   ·exact h4
   ·exact h7 d hd⟩
  rw [List.flatten_cons]
  have := h3.append h5
  rw [← List.drop_drop, List.take_append_drop] at this
  exact this
theorem open_typ (tok : TOK P tt) : ∀ (m n : Nat) {t : Nat} {cs : List Value} {x : DataW H × List MemPlace}, shape tt m t = true → DataW.trod enc P w 0 (fun _ => true) true n t cs = some x →
  ∃ xs, VRs (Own (fun _ => False) []) w [] xs cs ∧ Typ tt m t xs
 | 0, n, t, cs, x, hs, h => by simp [shape] at hs
 | m + 1, n, t, cs, x, hs, h => by
  have hk := shape_known hs
  obtain ⟨d, hd, hdk⟩ := (tok t hk).desc
  have hdk2 := hdk.2
  simp only [shape] at hs
  simp only [Typ]
  split at hs
  ·rename_i e
   rw [e] at hdk2
   simp only at hdk2
   subst hdk2
   obtain ⟨b, rfl, _⟩ := DataW.trod_bool hd h
   exact ⟨[.bool b], by simp [VRs, VR], b, rfl⟩
  ·rename_i k e
   rw [e] at hdk2
   simp only at hdk2
   subst hdk2
   obtain ⟨i, rfl, _, hw⟩ := DataW.trod_int hd h
   simp only [Lit.wf, Bool.and_eq_true, decide_eq_true_eq] at hw
   exact ⟨[.int k i], by simp [VRs, VR], i, rfl, hw⟩
  ·rename_i e
   rw [e] at hdk2
   simp only at hdk2
   subst hdk2
   obtain ⟨s, rfl, _, hl⟩ := DataW.trod_string hd h
   exact ⟨[.str s.data.toList], by simp [VRs, VR], _, rfl, by rw [Array.length_toList]; exact hl⟩
  ·rename_i e ek
   rw [ek] at hdk2
   simp only at hdk2
   subst hdk2
   simp only [Bool.and_eq_true] at hs
   obtain ⟨hpos, hse⟩ := hs
   have hpos' : 0 < (tt e).size := Nat.le_of_ble_eq_true hpos
   have hsz := tok.cellsOf (shape_known hse)
   rcases DataW.trod_slice hd h with ⟨rfl, _⟩ | ⟨a, len, cap, elems, rest, n', rfl, rfl, _, _, hlc, hcm, hlen, hel, hsp, _⟩
   ·exact ⟨[.sl true [] 0], by simp [VRs, VR], true, [], rfl, by simp, by simp, by simp⟩
   ·obtain ⟨hrl, hr⟩ := hsp rfl
    -- the elements
    have hel2 : ∀ i ∈ List.range len, ∃ p : List V × List Value, w.cells? 0 (a.add (i * P.cellsOf e)) (P.cellsOf e) = some p.2 ∧ VRs (Own (fun _ => False) []) w [] p.1 p.2 ∧ Typ tt m e p.1 := by
     intro i hi
     have hi' := List.mem_range.1 hi
     have h0 := hel i hi'
     rw [List.getElem?_eq_getElem (by omega), Option.bind_eq_some_iff] at h0
     obtain ⟨cs', h1, h2⟩ := h0
     obtain ⟨xs, h3, h4⟩ := open_typ tok m n' hse h2
     exact ⟨(xs, cs'), h1, h3, h4⟩
    obtain ⟨ps, hps⟩ := choose_list hel2
    have hpl : ps.length = len := by simpa using forall2_len hps
    have hget : ∀ (i : Nat) (p : List V × List Value), ps[i]? = some p → w.cells? 0 (a.add (i * P.cellsOf e)) (P.cellsOf e) = some p.2 := by
     have : ∀ (k : Nat) (ps : List (List V × List Value)) (s : Nat), All2 (fun (b : List V × List Value) i => w.cells? 0 (a.add (i * P.cellsOf e)) (P.cellsOf e) = some b.2 ∧ VRs (Own (fun _ => False) []) w [] b.1 b.2 ∧ Typ tt m e b.1) ps (List.range' s k) →
       ∀ (i : Nat) (p : List V × List Value), ps[i]? = some p → w.cells? 0 (a.add ((s + i) * P.cellsOf e)) (P.cellsOf e) = some p.2 := by
      intro k
      induction k with
      | zero => intro ps s h i p hp; cases h; simp at hp
      | succ k ih2 =>
       intro ps s h i p hp
       rw [List.range'_succ] at h
       cases h with
       | cons h1 h2 =>
        cases i with
        | zero => simp at hp; subst hp; exact h1.1
        | succ i =>
         have := ih2 _ (s + 1) h2 i p (by simpa using hp)
         rw [show s + (i + 1) = s + 1 + i by omega]; exact this
     intro i p hp
     have := this len ps 0 (by rw [← List.range_eq_range']; exact hps) i p hp
     simpa using this
    have hmem : ∀ p ∈ ps, VRs (Own (fun _ => False) []) w [] p.1 p.2 ∧ Typ tt m e p.1 := by
     intro p hp
     obtain ⟨i, _, h1⟩ := forall2_mem hps p hp
     exact h1.2
    refine ⟨[.sl false (ps.map (·.1)).flatten (ps.map (·.1)).length], ?_, false, ps.map (·.1), rfl, by simp only [List.length_map, hpl]; omega, by simp, ?_⟩
    ·simp only [VRs, and_true, VR, List.length_map, hpl]
     by_cases hc0 : cap = 0
     ·have : len = 0 := by omega
      subst this hc0
      exact .inl ⟨some a, rfl, rfl, by simp⟩
     · -- a cell is there
      have hcell : ∃ v, w.cell? a = some v := by
       have hne : 0 < P.cellsOf e := by rw [hsz]; exact hpos'
       by_cases hl0 : len = 0
       ·have h0 := hr 0 (by omega)
        rw [List.getElem?_eq_getElem (by omega), Option.bind_eq_some_iff] at h0
        obtain ⟨cs', h1, _⟩ := h0
        obtain ⟨_, hlen', hcells⟩ := World.cells?_some h1
        have h2 := hcells 0 hne
        rw [List.getElem?_eq_getElem (by omega)] at h2
        rw [Addr.add_add, hl0, show (0 + 0) * P.cellsOf e + 0 = 0 by omega] at h2
        exact ⟨_, h2⟩
       ·have h0 := hel 0 (by omega)
        rw [List.getElem?_eq_getElem (by omega), Option.bind_eq_some_iff] at h0
        obtain ⟨cs', h1, _⟩ := h0
        obtain ⟨_, hlen', hcells⟩ := World.cells?_some h1
        have h2 := hcells 0 hne
        rw [List.getElem?_eq_getElem (by omega)] at h2
        rw [Addr.add_add, show 0 * P.cellsOf e + 0 = 0 by omega] at h2
        exact ⟨_, h2⟩
      obtain ⟨v0, hc⟩ := hcell
      have hspot := World.cell?_spot hc
      obtain ⟨b, off, spot⟩ := a
      have hsp0 : spot = none := by
       cases spot with
       | none => rfl
       | some s => simp at hspot
      subst hsp0
      have hb : b < w.heap.size := by
       exact lt_of_cell hc
      refine .inr ⟨trivial, b, off, cap, (ps.map (·.2)).flatten, rfl, hlc, hb, ?_, ?_, ?_⟩
      ·rintro (h | ⟨i, l, hi, _⟩)
       ·exact h
       ·simp at hi
      ·intro i v hv
       have hk2 : ∀ c ∈ ps.map (·.2), c.length = P.cellsOf e := by
        intro c hc
        obtain ⟨p, hp, rfl⟩ := List.mem_map.1 hc
        obtain ⟨j, hj⟩ := List.getElem?_of_mem hp
        exact (World.cells?_some (hget j p hj)).2.1
       obtain ⟨c, h1, h2⟩ := flat_at hk2 (by rw [hsz]; exact hpos') hv
       rw [List.getElem?_map, Option.map_eq_some_iff] at h1
       obtain ⟨p, hp, rfl⟩ := h1
       have h3 := (World.cells?_some (hget _ p hp)).2.2 (i % P.cellsOf e) (Nat.mod_lt _ (by rw [hsz]; exact hpos'))
       rw [addr_add, addr_add, Nat.add_assoc, Nat.mul_comm, Nat.div_add_mod] at h3
       rw [h3, h2]
      ·refine VRs.flat ?_
       clear hget hps hpl
       induction ps with
       | nil => exact .nil
       | cons p ps ih3 => exact .cons (hmem p (by simp)).1 (ih3 (fun q hq => hmem q (by simp [hq])))
    ·intro c hc
     obtain ⟨p, hp, rfl⟩ := List.mem_map.1 hc
     exact (hmem p hp).2
  ·rename_i fs e
   rw [e] at hdk2
   simp only at hdk2
   obtain ⟨fields, rfl, hfs⟩ := hdk2
   simp only [Bool.and_eq_true] at hs
   obtain ⟨hc, hall⟩ := hs
   obtain ⟨xs, n', rfl, _, hl, hxl, hf⟩ := DataW.trod_struct hd h
   have hl2 : cs.length = (tt t).size := by rw [hl, tok.cellsOf hk]
   rw [← hfs, ← hl2] at hc
   obtain ⟨ys, h1, h2⟩ := open_fields tok (m := m) (n := n') (fun {t cs x} hs h => open_typ tok m n' hs h) (cs := cs) fields.toList 0 hc
    (fun f hf' => by
     rw [← hfs, List.all_eq_true] at hall
     exact hall (f.offset, f.type) (List.mem_map.2 ⟨f, hf', rfl⟩))
    (fun f hf' => by
     obtain ⟨i, hi⟩ := List.getElem?_of_mem hf'
     rw [Array.getElem?_toList] at hi
     have h3 := hf i f hi
     have hlt : i < xs.length := by rw [hxl]; exact (Array.getElem?_eq_some_iff.1 hi).1
     rw [List.getElem?_eq_getElem hlt] at h3
     exact ⟨_, h3⟩) (Nat.zero_le _)
   rw [hfs] at h2
   exact ⟨ys, by simpa using h1, h2⟩
  ·rename_i k e ek
   rw [ek] at hdk2
   simp only at hdk2
   subst hdk2
   simp only [Bool.and_eq_true] at hs
   obtain ⟨hsz0, hse⟩ := hs
   have hsz0 := Nat.eq_of_beq_eq_true hsz0
   have hsz := tok.cellsOf (shape_known hse)
   obtain ⟨xs, n', rfl, _, hl, hxl, hf⟩ := DataW.trod_array hd h
   have hl2 : cs.length = (tt t).size := by rw [hl, tok.cellsOf hk]
   obtain ⟨l, h1, h2, h3⟩ := open_elems tok (m := m) (n := n') hse (fun {t cs x} hs h => open_typ tok m n' hs h) (cs := cs) k 0 (by rw [hl2, ← hsz0, Nat.zero_add])
    (fun i hi => by
     have h4 := hf i hi
     rw [List.getElem?_eq_getElem (l := xs) (i := i) (by omega), hsz] at h4
     rw [Nat.zero_add]
     exact ⟨_, h4⟩)
   exact ⟨l.flatten, by simpa using h1, l, rfl, h2, h3⟩
  ·simp at hs
end
end Go.Vm
namespace Go.Vm
variable [GlobTab]
open Go.ChangeShapes Go.WideShapes Go.RowKit
def TypA (tt : Nat → TI) (m : Nat) : List Nat → List V → Prop
 | [], [] => True
 | t :: ts, v :: vs => (∃ cs, v = mkV (tt t) cs ∧ Typ tt m t cs) ∧ TypA tt m ts vs
 | _, _ => False
section
variable {P : Program} {tt : Nat → TI} {W W' : World} {H : Type} {enc : TypeId × Value → H}
theorem cells_one {v : Value} (h : ∀ cs, v ≠ .agg cs) : v.cells.toList = [v] := by
 cases v <;> first | rfl | exact absurd rfl (h _)
theorem open_arg (tok : TOK P tt) {m n t base : Nat} {v : Value} {d : DataW H} {p : List MemPlace} (hs : shape tt m t = true) (h : DataW.trod enc P W 0 (fun _ => true) true n t v.cells.toList = some (d, p))
  (hv : Value.okWide P W .any base t v) : ∃ x, VR (Own (fun _ => False) []) W [] x v ∧ ∃ cs, x = mkV (tt t) cs ∧ Typ tt m t cs := by
 obtain ⟨xs, h1, h2⟩ := open_typ tok m n hs h
 obtain ⟨dd, hd, hag, hdk⟩ := (tok t (shape_known hs)).desc
 cases hagg : (tt t).agg with
 | true =>
  rw [hagg] at hag
  have : ∃ cs, v = .agg cs := by
   cases dd <;> simp at hag <;> (simp only [Value.okWide, hd] at hv; obtain ⟨cs, rfl, _⟩ := hv; exact ⟨cs, rfl⟩)
  obtain ⟨cs, rfl⟩ := this
  refine ⟨.agg xs, ?_, xs, by simp [mkV, hagg], h2⟩
  simp only [VR]
  exact ⟨cs.toList, by simp, by simpa [Value.cells] using h1⟩
 | false =>
  rw [hagg] at hag
  have : ∀ cs, v ≠ .agg cs := by
   rintro cs rfl
   cases dd <;> simp at hag <;> simp [Value.okWide, hd, Cell.okWide, Cell.ok] at hv
  rw [cells_one this] at h1
  match xs, h1 with
  | [x], h1 =>
   simp only [VRs, and_true] at h1
   exact ⟨x, h1, [x], by simp [mkV, hagg], h2⟩
  | [], h1 => simp [VRs] at h1
  | _ :: _ :: _, h1 => simp [VRs] at h1
theorem open_args (tok : TOK P tt) {m base : Nat} : ∀ {ts : List Nat} {vs : List Value} {ds : List (DataW H)} {p : List MemPlace}, ts.all (shape tt m) = true → DataW.TrodAll enc P W 0 (fun _ => true) true ts vs ds p →
  (∀ (j : Nat) t v, ts[j]? = some t → vs[j]? = some v → Value.okWide P W .any base t v) → ∃ xs, VRs (Own (fun _ => False) []) W [] xs vs ∧ TypA tt m ts xs
 | [], vs, ds, p, _, h, _ => by
  obtain ⟨rfl, rfl, rfl⟩ := trodAll_nil h
  exact ⟨[], by simp [VRs], by simp [TypA]⟩
 | t :: ts, vs, ds, p, hs, h, hv => by
  obtain ⟨v, vs1, d, ds1, a, b, rfl, rfl, rfl, ⟨n, h1⟩, h2⟩ := trodAll_cons h
  simp only [List.all_cons, Bool.and_eq_true] at hs
  obtain ⟨x, h3, h4⟩ := open_arg tok hs.1 h1 (hv 0 t v rfl rfl)
  obtain ⟨xs, h5, h6⟩ := open_args tok hs.2 h2 (fun j t v hj hj' => hv (j + 1) t v (by simpa using hj) (by simpa using hj'))
  exact ⟨x :: xs, by simp only [VRs]; exact ⟨h3, h5⟩, by simp only [TypA]; exact ⟨h4, h6⟩⟩
theorem law_calls {n : Nat} {xs : List V} {vs : List Value} (hg : GT (fun _ => False) W) (h : PC P n xs (.bool true)) (hv : VRs (Own (fun _ => False) []) W [] xs vs) :
  Calls P n vs.toArray W fun e W' => e = .returned (.bool true) ∧ Below W.heap.size W W' := by
 have h0 : HR (fun _ => False) [] W [] := ⟨rfl, fun i loc o hi _ => by simp at hi, fun i j l l' b hi => by simp at hi, fun b ⟨i, l, hi, _⟩ => by simp at hi, fun b ⟨i, l, hi, _⟩ => by simp at hi, fun b hb => hb.elim, hg.nil⟩
 refine ((h []).2 _ [] W vs h0 hv).mono ?_
 rintro e w' ⟨u, β', rfl, g1, g2, g3⟩
 simp only [VR] at g2
 subst g2
 exact ⟨rfl, g3.os, g3.tape, g3.output, g3.size, fun k hk => g3.keep k hk (fun ⟨i, l, hi, _⟩ => by simp at hi)⟩
theorem trodAll_stays (hl : laidOutB P = true) {sp : Nat → Bool} (hb : Below W.heap.size W W') : ∀ {ts : List Nat} {vs : List Value} {ds : List (DataW H)} {p : List MemPlace},
  ts.all (fun t => P.readableRec t && decide (t < P.types.size)) = true → DataW.TrodAll enc P W 0 (fun _ => true) true ts vs ds p → (∀ x ∈ p, x.block < W.heap.size) → (∀ x ∈ p, sp x.block = true) →
  DataW.TrodAll enc P W' 0 sp true ts vs ds p
 | [], vs, ds, p, _, h, _, _ => by
  obtain ⟨rfl, rfl, rfl⟩ := trodAll_nil h
  exact rfl
 | t :: ts, vs, ds, p, hs, h, hlt, hsp => by
  obtain ⟨v, vs1, d, ds1, a, b, rfl, rfl, rfl, h1, h2⟩ := trodAll_cons h
  simp only [List.all_cons, Bool.and_eq_true, decide_eq_true_eq] at hs
  refine ⟨a, b, ?_, trodAll_stays hl hb hs.2 h2 (fun x hx => hlt x (by simp [hx])) (fun x hx => hsp x (by simp [hx])), rfl⟩
  exact WideElems.Trod_stays hl hs.1.1 hs.1.2 h1 (fun x hx => hb.same (hlt x (by simp [hx]))) (fun x hx => hsp x (by simp [hx]))
theorem post_true {f : Func} {s : ChangeSpec} {apart fresh handsOn again : Bool} {args : Array Value} {ds gs : List (DataW H)} {before : List MemPlace} {tb : Nat}
  (hl : laidOutB P = true) (hW : DataW.Whole enc P f.params.toList s.vars apart W args.toList ds gs before) (hvars : s.vars = [])
  (hread : f.params.toList.all (fun t => P.readableRec t && decide (t < P.types.size)) = true)
  (hres : f.resultTypes = #[tb]) (htb : P.underlying tb = some .bool)
  (hfn : s.fn H (ds ++ gs) = { results := [.lit (.bool true)], args := ds }) (hb : Below W.heap.size W W') :
  s.post enc P f apart fresh handsOn again W args (.bool true) W' := by
 have hlt : ∀ p ∈ before, p.block < W.heap.size := fun p hp => by simpa using hW.lt p hp
 have hW' := hW
 obtain ⟨p, q, hA, hV, rfl, hfz, hnd⟩ := hW
 rw [hvars] at hV
 obtain ⟨rfl, rfl⟩ := trodVars_none hV
 rw [List.append_nil] at hlt hfz hnd hW' hfn
 have hargs : ∀ sp : Nat → Bool, (∀ x ∈ p, sp x.block = true) → DataW.TrodAll enc P W' 0 sp true f.params.toList args.toList ds p := fun sp hsp => trodAll_stays hl hb hread hA hlt hsp
 have hresl : (Value.bool true).resultList f.resultTypes.size = [.bool true] := by rw [hres]; rfl
 have hr : ∀ (b : Nat) (sp : Nat → Bool) (hd : Bool), DataW.TrodAll enc P W' b sp hd f.resultTypes.toList ((Value.bool true).resultList f.resultTypes.size) [.lit (.bool true)] [] := by
  intro b sp hd
  rw [hresl, hres]
  exact trodAll_mk1 (shut_bool htb true)
 have hvv : ∀ sp : Nat → Bool, DataW.TrodVars enc P W' sp s.vars ([] : List (DataW H)) [] := by
  intro sp; rw [hvars]; exact rfl
 have hfn' : s.fn H (ds ++ []) = { results := [.lit (.bool true)], args := ds } := by rw [List.append_nil]; exact hfn
 refine ⟨ds, [], p, [], p, [], hW', ?_, ?_, ?_, World.keptBut_mono (fun x hx => hx.elim) (hb.frame (fun _ => False)), fun _ => ⟨?_, [.lit (.bool true)] ++ ds, [], [] ++ p ++ [], ?_, ?_⟩⟩
 ·rw [hfn']; exact hr _ _ _
 ·rw [hfn']; exact hargs _ (fun x hx => by simpa using hlt x hx)
 ·rw [hfn']; exact hvv _
 ·intro j t r h1 h2
  rw [hres] at h1 h2
  cases j with
  | zero =>
   simp [Value.resultList] at h1 h2
   subst h1 h2
   exact okWide_bool_mk htb true
  | succ j => simp at h1
 ·refine ⟨[] ++ p, [], trodAll_append (hargs _ (fun _ _ => rfl)) (hr _ _ _), hvv _, rfl, ?_, ?_⟩
  ·intro b off hp
   rw [List.append_nil, List.nil_append] at hp
   rw [hb.frozen (hlt _ hp)]
   exact hfz b off hp
  ·intro ha
   simpa using hnd ha
 ·intro x hx _
  simpa using hx
theorem law_lifted {C : Checked} {os : Os} {n : Nat} {fn : Func} {s : ChangeSpec} {dom : List PathCond} {m tb : Nat} (tok : TOK C.prog tt)
  (own : ownKnob C.prog.godebug = none) (started : os.Started) (noInit : C.prog.inits.idxOf? n = none) (hfn : C.prog.funcs[n]? = some fn)
  (witness : ∃ (w : World) (tape : Tape) (i : Input), w.os = os ∧ (w.forCall tape i).Shaped C.prog ∧ i.vars = [] ∧ Input.okWide C.prog (w.forCall tape i) .any w.heap.size n i ∧
   s.pre6 enc C.prog fn dom false (w.forCall tape i).memory i.args ∧ ({} : Assume).holds C.prog (lone (Frame.enter C.prog n i.args .normal) [] (w.forCall tape i)))
  (hl : laidOutB C.prog = true) (hvars : s.vars = []) (hread : fn.params.toList.all (fun t => C.prog.readableRec t && decide (t < C.prog.types.size)) = true)
  (hshape : fn.params.toList.all (shape tt m) = true) (hres : fn.resultTypes = #[tb]) (htb : C.prog.underlying tb = some .bool)
  (hspec : ∀ ds : List (DataW H), ds.length = fn.params.toList.length → s.fn H ds = { results := [.lit (.bool true)], args := ds })
  (hgl : ∀ g, GlobTab.gl g = none) (law : ∀ xs, TypA tt m fn.params.toList xs → PC C.prog n xs (.bool true)) :
  ReturnsInHanded {} C os n .any (s.pre6 enc C.prog fn dom false) (s.post enc C.prog fn false true false false) := by
 refine returnsInHanded_of_change own started noInit hfn witness ?_
 intro W base args ds gs before hval hW hcnd _
 have hW' := hW
 obtain ⟨p, q, hA, hV, rfl, _, _⟩ := hW'
 obtain ⟨xs, h1, h2⟩ := open_args tok hshape hA (fun j t v hj hv => hval j t v (by simpa using hj) (by simpa using hv))
 have hc := law_calls (fun g l hg => by rw [hgl] at hg; cases hg) (law xs h2) h1
 rw [Array.toArray_toList] at hc
 have hlen : ∀ {ts : List Nat} {vs : List Value} {ds : List (DataW H)} {p : List MemPlace}, DataW.TrodAll enc C.prog W 0 (fun _ => true) true ts vs ds p → ds.length = ts.length := by
  intro ts
  induction ts with
  | nil => intro vs ds p h; obtain ⟨_, rfl, _⟩ := trodAll_nil h; rfl
  | cons t ts ih => intro vs ds p h; obtain ⟨v, vs1, d, ds1, a, b, rfl, rfl, rfl, _, h2⟩ := trodAll_cons h; simp [ih h2]
 have hgs : gs = [] := by
  rw [hvars] at hV
  exact (trodVars_none hV).1
 refine hc.mono ?_
 rintro e W' ⟨rfl, hb⟩
 exact ⟨_, rfl, post_true hl hW hvars hread hres htb (by rw [hgs, List.append_nil]; exact hspec ds (hlen hA)) hb⟩
end
end Go.Vm
