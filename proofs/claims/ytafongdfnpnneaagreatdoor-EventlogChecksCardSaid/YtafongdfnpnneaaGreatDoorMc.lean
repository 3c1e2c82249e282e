/-
  Joined by a program from the texts Evt Bdr Shl Kit Fmt8 Pat Chk20 Line Cut Split Items Mtch Prs Par28 Par10 Eqe.
-/
import Derived.Test.YtafongdfnpnneaaGreatDoorMb
import Derived.Lib.Builder
import Derived.Lib.Strings
import Derived.Lib.Slices
import Derived.Lib.Walk
import Derived.Lib.AppendStr
import Derived.Lib.UnsafeStr
import Derived.Shelf.RegionOpenPlain
import Derived.Lib.MakeNoZero
import Derived.WalkKit
import Derived.Laws.Externs
import Derived.Laws.IdiomCopy
import Derived.Laws.BitsLemmas
import Derived.Shelf.Strings.Builder1
import Derived.Shelf.Strings.OnBuilder
import Derived.Test.YtafongdfnpnneaaGreatDoorProg
import Derived.Test.YtafongdfnpnneaaGreatDoorMa
import Derived.Lib.Bytealg
/- Chapter 53: events, their lines, in plain terms. -/
set_option maxRecDepth 100000
set_option maxHeartbeats 4000000
set_option linter.all false
namespace Go.Proofs.YtafongdfnpnneaaGreatDoor
open Go.Vm

/-- the parts of a text between spaces -/
def spl : List UInt8 → List (List UInt8)
  | [] => [[]]
  | c :: s => if c = 32 then [] :: spl s else match spl s with
    | w :: ws => (c :: w) :: ws
    | [] => [[c]]
def jnw : List (List UInt8) → List UInt8
  | [] => []
  | [w] => w
  | w :: v :: ws => w ++ 32 :: jnw (v :: ws)
theorem spl_ne : ∀ s, spl s ≠ []
  | [] => by simp [spl]
  | c :: s => by
    rw [spl]
    split
    · simp
    · split <;> simp
theorem spl_word : ∀ (w s : List UInt8), (∀ c, c ∈ w → c ≠ 32) → spl (w ++ 32 :: s) = w :: spl s
  | [], s, _ => by rw [List.nil_append, spl, if_pos rfl]
  | c :: w, s, h => by
    rw [List.cons_append, spl, if_neg (h c (List.mem_cons_self ..)), spl_word w s (fun c hc => h c (List.mem_cons_of_mem _ hc))]
theorem spl_one : ∀ (w : List UInt8), (∀ c, c ∈ w → c ≠ 32) → spl w = [w]
  | [], _ => rfl
  | c :: w, h => by
    rw [spl, if_neg (h c (List.mem_cons_self ..)), spl_one w (fun c hc => h c (List.mem_cons_of_mem _ hc))]
theorem spl_jnw : ∀ (ws : List (List UInt8)), ws ≠ [] → (∀ w, w ∈ ws → ∀ c, c ∈ w → c ≠ 32) → spl (jnw ws) = ws
  | [], h, _ => absurd rfl h
  | [w], _, h => spl_one w (h w (List.mem_cons_self ..))
  | w :: v :: ws, _, h => by
    rw [jnw, spl_word w _ (h w (List.mem_cons_self ..)), spl_jnw (v :: ws) (List.cons_ne_nil _ _) (fun w hw => h w (List.mem_cons_of_mem _ hw))]
theorem jnw_cons (w : List UInt8) {ws : List (List UInt8)} (h : ws ≠ []) : jnw (w :: ws) = w ++ 32 :: jnw ws := by
  cases ws with
  | nil => exact absurd rfl h
  | cons v ws => rfl
theorem jnw_spl : ∀ s, jnw (spl s) = s
  | [] => rfl
  | c :: s => by
    have ih := jnw_spl s
    rw [spl]
    split
    · rename_i h
      rw [jnw_cons _ (spl_ne s), ih, h]
      rfl
    · cases hs : spl s with
      | nil => exact absurd hs (spl_ne s)
      | cons w ws =>
        rw [hs] at ih
        simp only
        cases ws with
        | nil => rw [jnw] at ih ⊢; rw [ih]
        | cons v ws => rw [jnw] at ih ⊢; rw [List.cons_append, ih]
structure Ev where
  k : Int
  a : Int
  b : Int
  c : Int
  deriving DecidableEq
instance : Inhabited Ev := ⟨⟨0, 0, 0, 0⟩⟩
/-- a part of a line: a word, or one of the event's numbers -/
inductive It where
  | w (s : List UInt8)
  | f (i : Nat)
  deriving DecidableEq
def fld (e : Ev) : Nat → Int
  | 1 => e.a
  | 2 => e.b
  | _ => e.c
def setF (e : Ev) (i : Nat) (n : Int) : Ev := match i with
  | 1 => { e with a := n }
  | 2 => { e with b := n }
  | _ => { e with c := n }
def wPacket : List UInt8 := [112, 97, 99, 107, 101, 116]
def wSent : List UInt8 := [115, 101, 110, 116]
def wBy : List UInt8 := [98, 121]
def wHost : List UInt8 := [104, 111, 115, 116]
def wAt : List UInt8 := [97, 116]
def wSwitch : List UInt8 := [115, 119, 105, 116, 99, 104]
def wTo : List UInt8 := [116, 111]
def wPort : List UInt8 := [112, 111, 114, 116]
def wDropped : List UInt8 := [100, 114, 111, 112, 112, 101, 100]
def wDelivered : List UInt8 := [100, 101, 108, 105, 118, 101, 114, 101, 100]
def wLost : List UInt8 := [108, 111, 115, 116]
def wPhase : List UInt8 := [112, 104, 97, 115, 101]
def wStep : List UInt8 := [115, 116, 101, 112]
def wLink : List UInt8 := [108, 105, 110, 107]
def wUp : List UInt8 := [117, 112]
def wDown : List UInt8 := [100, 111, 119, 110]
/-- the parts of an event's line -/
def pat (e : Ev) : List It :=
  if e.k = 1 then [.w wPacket, .f 1, .w wSent, .w wBy, .w wHost, .f 2]
  else if e.k = 2 then (if e.c = -1 then [.w wPacket, .f 1, .w wAt, .w wSwitch, .f 2, .w wDropped] else [.w wPacket, .f 1, .w wAt, .w wSwitch, .f 2, .w wTo, .w wPort, .f 3])
  else if e.k = 3 then [.w wPacket, .f 1, .w wDelivered, .w wTo, .w wHost, .f 2]
  else if e.k = 4 then [.w wPacket, .f 1, .w wLost, .w wAt, .w wSwitch, .f 2, .w wPort, .f 3]
  else if e.k = 5 then [.w wPhase, .f 1, .w wStep, .f 2]
  else if e.k = 6 then (if e.b = 1 then [.w wLink, .f 1, .w wDown] else [.w wLink, .f 1, .w wUp])
  else []
def okN (n : Int) : Bool := decide (0 ≤ n) && decide (n ≤ 999999999)
def okIt (e : Ev) : It → Bool
  | .w _ => true
  | .f i => okN (fld e i)
/-- the error of an event's numbers -/
def chkE (e : Ev) : Int :=
  if e.k < 1 ∨ 6 < e.k then 11
  else if (pat e).all (okIt e) = false then 9
  else if (e.k = 5 ∧ (e.a < 1 ∨ 3 < e.a)) ∨ (e.k = 6 ∧ (e.b < 0 ∨ 1 < e.b)) then 9
  else 0
def wd (e : Ev) : It → List UInt8
  | .w s => s
  | .f i => dgs 9 (fld e i).toNat
/-- the line of an event -/
def lineE (e : Ev) : List UInt8 := jnw ((pat e).map (wd e))
/-- whose unused numbers are 0 -/
def tidy (e : Ev) : Prop := (e.k ≠ 2 → e.k ≠ 4 → e.c = 0) ∧ (e.k = 2 ∨ e.k = 4 ∨ e.k = 1 ∨ e.k = 3 ∨ e.k = 5 ∨ e.k = 6)
end Go.Proofs.YtafongdfnpnneaaGreatDoor

/-  -/
set_option linter.unusedVariables false
set_option maxRecDepth 100000
set_option maxHeartbeats 4000000
namespace Go.Proofs.YtafongdfnpnneaaGreatDoor
open Go.RowKit
theorem cc_used (b : Nat) (w : World) (h0 : w.cell? ⟨b, 0, none⟩ = some (.pointer (some ⟨b, 0, none⟩))) :
    Calls Tryz.prog 44 #[.pointer (some ⟨b, 0, none⟩)] w fun e w' => e = .returned (.tuple #[]) ∧ w' = w := by
  obtain ⟨j, hj⟩ : ∃ j, Tryz.prog.info? 69 = some j := ⟨_, rfl⟩
  go_enter Tryz.func44, Tryz.ntmps44
  go_wp2
  rw [Lib.run_neq_ptr_same w _ Tryz.underlying66 hj]
  go_wp2
  go_end0
  exact ⟨rfl, rfl⟩
theorem info58 : ∃ j, Tryz.prog.info? 69 = some j ∧ j.size = 2 := ⟨_, rfl, rfl⟩
theorem lies58 : liesAt Tryz.prog Tryz.prog.depth 69 (2 / Tryz.prog.cellsOf 69) 0 69 1 = true := by kernel_rfl
theorem cc_fresh (b : Nat) (w : World) (h0 : w.cell? ⟨b, 0, none⟩ = some (.pointer none)) (hsh : w.shape? b = some (69, 2)) (hfz : w.frozen? ⟨b, 0, none⟩ = false) :
    Calls Tryz.prog 44 #[.pointer (some ⟨b, 0, none⟩)] w fun e w' => e = .returned (.tuple #[]) ∧ w' = w.setCell ⟨b, 0, none⟩ (.pointer (some ⟨b, 0, none⟩)) := by
  obtain ⟨j, hj, hjs⟩ := info58
  go_enter Tryz.func44, Tryz.ntmps44
  go_wp2
  rw [Lib.run_to_unsafe w ⟨b, 0, none⟩ Tryz.underlying66 Tryz.underlying110 hj (by rw [hjs]; decide) hsh (Nat.zero_lt_succ 1)]
  simp only [Result.andThen]
  rw [Oper.upon_value]
  go_wp2
  rw [run_callFunc_extern (fn := Tryz.f55) (e := Extern.AbiNoEscape.same) Tryz.func55 (by kernel_rfl) (by kernel_rfl) (by kernel_rfl) (by kernel_rfl)]
  rw [Lib.run_noEscape]
  simp only [Result.andThen]
  rw [Oper.upon_value]
  go_wp2
  rw [Lib.run_from_unsafe w ⟨b, 0, none⟩ Tryz.underlying110 Tryz.underlying66 hj hsh lies58]
  simp only [Result.andThen]
  rw [Oper.upon_value]
  go_wp2
  go_end0
  exact ⟨rfl, rfl⟩
theorem cc (B b : Nat) (bs : List Value) (w : World) (h : Lib.IsBuilder 69 5 B b bs w) :
    Calls Tryz.prog 44 #[.pointer (some ⟨b, 0, none⟩)] w fun e w' => e = .returned (.tuple #[]) ∧ Lib.BuilderAt 69 5 B b (.pointer (some ⟨b, 0, none⟩)) bs w' ∧ Below B w w' := by
  rcases h with h | h
  · refine (cc_fresh b w h.cell0 h.shape (Lib.BuilderAt.frozen0 h)).mono ?_
    rintro e w' ⟨rfl, rfl⟩
    exact ⟨rfl, h.used _, (Below.refl B w).setCell (p := ⟨b, 0, none⟩) h.1 _⟩
  · refine (cc_used b w h.cell0).mono ?_
    rintro e w' ⟨rfl, rfl⟩
    exact ⟨rfl, h, Below.refl B _⟩
theorem info5 : ∃ i, Tryz.prog.info? 5 = some i ∧ i.zero = some (.int .u8 0) ∧ i.size = 1 ∧ i.bytes = 1 := ⟨_, rfl, rfl, rfl, rfl⟩
theorem wrS (B b : Nat) (bs : List Value) (s : ByteArray) (w : World) (h : Lib.IsBuilder 69 5 B b bs w) (hlen : bs.length + s.size ≤ 140737488355328) (hBw : B ≤ w.heap.size) :
    Calls Tryz.prog 23 #[.pointer (some ⟨b, 0, none⟩), .string s] w fun e w' => e = .returned (.tuple #[.int .i64 s.size, .nilIface]) ∧ Lib.BuilderAt 69 5 B b (.pointer (some ⟨b, 0, none⟩)) (bs ++ Lib.strCells s) w' ∧ Below B w w' := by
  obtain ⟨i0, hi, hz0, hz1, hz2⟩ := info5
  go_enter Tryz.func23, Tryz.ntmps23
  go_wp2_with (go_at_call 44; refine (cc B b bs _ h).mono ?_)
  rintro e w1 ⟨rfl, h1, hb1⟩
  obtain ⟨hB, v, hbk, hown, hne⟩ := h1
  have c0 : w1.cell? ⟨b, 0, none⟩ = some (.pointer (some ⟨b, 0, none⟩)) := by rw [Lib.cell_of_heap hbk]; rfl
  have c1 : w1.cell? ⟨b, 1, none⟩ = some v := by rw [Lib.cell_of_heap hbk]; rfl
  have hsz := hb1.size
  go_wp2_with (at_builtin; refine Lib.wpList_append_own_string _ rfl _ _ 67 9 rfl B 5 i0 Tryz.underlying67 Tryz.underlying9 hi hz0 hz1 hz2 _ _ _ rfl hown s rfl ?c3 ?c4 ?c5 ?_)
  case c3 => unfold maxLen; omega
  case c4 => omega
  case c5 => omega
  intro v' w2 hown' hgrow _
  have hlt : b < w1.heap.size := Lib.BuilderAt.lt ⟨hB, v, hbk, hown, hne⟩
  have hb2 : w2.heap[b]? = some (.cells #[.pointer (some ⟨b, 0, none⟩), v] 69 (0, 0)) := by
    rw [hgrow.block b hlt (fun e => hne e.symm)]
    exact hbk
  have d0 : w2.cell? ⟨b, 0, none⟩ = some (.pointer (some ⟨b, 0, none⟩)) := by rw [Lib.cell_of_heap hb2]; rfl
  have d1 : w2.cell? ⟨b, 1, none⟩ = some v := by rw [Lib.cell_of_heap hb2]; rfl
  have f1 : w2.frozen? ⟨b, 1, none⟩ = false := Lib.frozen_of_heap hb2 1
  obtain ⟨ao, n', cap, rfl⟩ : ∃ ao n' cap, v' = .slice ao n' cap := by
    rcases hown'.2 with ⟨hv, _⟩ | ⟨g, cap, cur, hv, _⟩
    · exact ⟨_, _, _, hv⟩
    · exact ⟨_, _, _, hv⟩
  go_wp2
  go_ret2
  refine ⟨rfl, ?_, ?_⟩
  · exact Lib.BuilderAt.put (T := 69) (e := 5) hB hb2 (bs' := bs ++ Lib.strCells s) (by simpa [Lib.strCells_length] using hown') (by decide)
  · exact (hb1.grown hgrow (by omega) (fun k hk => (hown.lt k hk).1)).setCell (p := ⟨b, 1, none⟩) hB _
theorem wrB (B b : Nat) (bs : List Value) (c : Int) (w : World) (h : Lib.IsBuilder 69 5 B b bs w) (hlen : bs.length + 1 ≤ 140737488355328) (hBw : B ≤ w.heap.size) :
    Calls Tryz.prog 25 #[.pointer (some ⟨b, 0, none⟩), .int .u8 c] w fun e w' => e = .returned .nilIface ∧ Lib.BuilderAt 69 5 B b (.pointer (some ⟨b, 0, none⟩)) (bs ++ [.int .u8 c]) w' ∧ Below B w w' := by
  obtain ⟨i0, hi, hz0, hz1, hz2⟩ := info5
  go_enter Tryz.func25, Tryz.ntmps25
  go_wp2_with (go_at_call 44; refine (cc B b bs _ h).mono ?_)
  rintro e w1 ⟨rfl, h1, hb1⟩
  obtain ⟨hB, v, hbk, hown, hne⟩ := h1
  have c0 : w1.cell? ⟨b, 0, none⟩ = some (.pointer (some ⟨b, 0, none⟩)) := by rw [Lib.cell_of_heap hbk]; rfl
  have c1 : w1.cell? ⟨b, 1, none⟩ = some v := by rw [Lib.cell_of_heap hbk]; rfl
  have hsz := hb1.size
  go_wp2_with (at_builtin; refine wpList_append_own _ rfl _ _ 67 rfl B 5 i0 (.int .u8 0) 1 1 Tryz.underlying67 hi hz0 hz1 hz2 rfl (by decide) _ _ _ rfl (hown.alloc _) ⟨w1.heap.size, 0, none⟩ 1 1 [.int .u8 c] rfl rfl ?c1 ?c2 ?c3 ?c4 ?c5 ?_)
  case c1 =>
    intro j u hj
    match j, hj with
    | 0, hj => simp at hj; subst hj; simp [Addr.add]
  case c2 => intro u hu; simp at hu; subst hu; rfl
  case c3 => unfold maxLen; omega
  case c4 => omega
  case c5 => simp; omega
  intro v' w2 hown' hgrow _
  have hlt : b < w1.heap.size := Lib.BuilderAt.lt ⟨hB, v, hbk, hown, hne⟩
  have hb2 : w2.heap[b]? = some (.cells #[.pointer (some ⟨b, 0, none⟩), v] 69 (0, 0)) := by
    rw [hgrow.block b (by simp; omega) (fun e => hne e.symm), Lib.alloc_old w1 _ b hlt]
    exact hbk
  have d0 : w2.cell? ⟨b, 0, none⟩ = some (.pointer (some ⟨b, 0, none⟩)) := by rw [Lib.cell_of_heap hb2]; rfl
  have d1 : w2.cell? ⟨b, 1, none⟩ = some v := by rw [Lib.cell_of_heap hb2]; rfl
  have f1 : w2.frozen? ⟨b, 1, none⟩ = false := Lib.frozen_of_heap hb2 1
  obtain ⟨g, cap, rfl⟩ : ∃ g cap, v' = .slice (some ⟨g, 0, none⟩) (bs.length + 1) cap := by
    rcases hown'.2 with ⟨_, h0⟩ | ⟨g, cap, cur, hv, _⟩
    · omega
    · exact ⟨g, cap, hv⟩
  go_wp2
  go_ret
  refine ⟨rfl, ?_, ?_⟩
  · exact Lib.BuilderAt.put (T := 69) (e := 5) hB hb2 (bs' := bs ++ [.int .u8 c]) (by simpa using hown') (by decide)
  · exact ((hb1.alloc (by omega) _).grown hgrow (by simp; omega) (fun k hk => (hown.lt k hk).1)).setCell (p := ⟨b, 1, none⟩) hB _
end Go.Proofs.YtafongdfnpnneaaGreatDoor

/- What the kit's command wrote (lay-shelf, lay-plain): the library's contracts for strings.Builder's Len and String and for strings.Join, as theorems of this program. -/
namespace Go.Proofs
open Go.Shelf
def Tryz.lays170_ren : Go.Shelf.Ren := ⟨fun | 170 => 26 | n => n, fun | 70 => 66 | 3 => 3 | 0 => 0 | 72 => 69 | 37 => 67 | 5 => 5 | n => n, fun | n => n⟩
theorem Tryz.lays170 : Go.Proofs.Lays.n170 Tryz.prog Tryz.lays170_ren := {
  mixed := by kernel_rfl
  f170 := Tryz.func26.trans (congrArg some (by kernel_rfl))
  t0 := Tryz.underlying0
  a0 := Tryz.isAgg0
  z0 := Tryz.sizeOf0
  v0 := Tryz.zeroValue0
  t3 := Tryz.underlying3
  a3 := Tryz.isAgg3
  z3 := Tryz.sizeOf3
  v3 := Tryz.zeroValue3
  t37 := Tryz.underlying67
  a37 := Tryz.isAgg67
  z37 := Tryz.sizeOf67
  v37 := Tryz.zeroValue67
  t70 := Tryz.underlying66
  a70 := Tryz.isAgg66
  z70 := Tryz.sizeOf66
  v70 := Tryz.zeroValue66
  t72 := Tryz.underlying69
  a72 := Tryz.isAgg69
  z72 := Tryz.sizeOf69
  v72 := Tryz.zeroValue69 }
open Go.RowKit in
/-- (*strings.Builder).Len: "Len returns the number of accumulated bytes; b.Len() == len(b.String()).": the world is as it was. (LAID: no walk: one application.) -/
theorem Tryz.Builder_Len (B b : Nat) (bs : List Value) (w : World) (h : Lib.IsBuilder 69 5 B b bs w) :
    Calls Tryz.prog 26 #[.pointer (some ⟨b, 0, none⟩)] w fun e w' => e = .returned (.int .i64 bs.length) ∧ w' = w := Any.Builder_Len Tryz.lays170 B b bs w h
def Tryz.lays169_ren : Go.Shelf.Ren := ⟨fun | 169 => 27 | n => n, fun | 70 => 66 | 9 => 9 | 0 => 0 | 72 => 69 | 37 => 67 | 127 => 101 | 3 => 3 | 5 => 5 | n => n, fun | n => n⟩
theorem Tryz.lays169 : Go.Proofs.Lays.n169 Tryz.prog Tryz.lays169_ren := {
  mixed := by kernel_rfl
  f169 := Tryz.func27.trans (congrArg some (by kernel_rfl))
  t0 := Tryz.underlying0
  a0 := Tryz.isAgg0
  z0 := Tryz.sizeOf0
  v0 := Tryz.zeroValue0
  t3 := Tryz.underlying3
  a3 := Tryz.isAgg3
  z3 := Tryz.sizeOf3
  v3 := Tryz.zeroValue3
  t9 := Tryz.underlying9
  a9 := Tryz.isAgg9
  z9 := Tryz.sizeOf9
  v9 := Tryz.zeroValue9
  t37 := Tryz.underlying67
  a37 := Tryz.isAgg67
  z37 := Tryz.sizeOf67
  v37 := Tryz.zeroValue67
  t70 := Tryz.underlying66
  a70 := Tryz.isAgg66
  z70 := Tryz.sizeOf66
  v70 := Tryz.zeroValue66
  t72 := Tryz.underlying69
  a72 := Tryz.isAgg69
  z72 := Tryz.sizeOf69
  v72 := Tryz.zeroValue69
  t127 := Tryz.underlying101
  a127 := Tryz.isAgg101
  z127 := Tryz.sizeOf101
  v127 := Tryz.zeroValue101 }
theorem Tryz.Builder_Extra_169 : Builder.Extra Tryz.prog Tryz.lays169_ren := {
  sizeBuilder := by kernel_rfl
  liesBuilder := by kernel_rfl
  t5 := Tryz.underlying5
  a5 := Tryz.isAgg5
  z5 := Tryz.sizeOf5
  v5 := Tryz.zeroValue5
  infoByte := by kernel_rfl
  cellsByte := by kernel_rfl
  sizeByte := by kernel_rfl
  neB5 := by decide }
open Go.RowKit in
/-- (*strings.Builder).String: "String returns the accumulated string.": WHATEVER THE BUILDER HOLDS. (LAID: no walk: one application.) -/
theorem Tryz.Builder_String_any (B b : Nat) (l : List UInt8) (w : World) (h : Lib.IsBuilder 69 5 B b (Lib.byteCells l) w) (hBw : B ≤ w.heap.size) :
    Calls Tryz.prog 27 #[.pointer (some ⟨b, 0, none⟩)] w fun e w' => e = .returned (.string ⟨l.toArray⟩) ∧ Below B w w' := Any.Builder_String_any Tryz.lays169 Tryz.Builder_Extra_169 B b l w h hBw
def Tryz.lays156_ren : Go.Shelf.Ren := ⟨fun | 156 => 46 | 165 => 57 | 166 => 23 | 169 => 27 | 240 => 44 | 241 => 64 | 276 => 55 | 277 => 76 | n => n, fun | 31 => 98 | 9 => 9 | 3 => 3 | 4 => 4 | 0 => 0 | 20 => 20 | 72 => 69 | 76 => 72 | 70 => 66 | 37 => 67 | 75 => 71 | 127 => 101 | 164 => 110 | 5 => 5 | 80 => 77 | n => n, fun | n => n⟩
theorem Tryz.lays156 : Go.Proofs.Lays.n156 Tryz.prog Tryz.lays156_ren := {
  mixed := by kernel_rfl
  f156 := Tryz.func46.trans (congrArg some (by kernel_rfl))
  f165 := Tryz.func57.trans (congrArg some (by kernel_rfl))
  f166 := Tryz.func23.trans (congrArg some (by kernel_rfl))
  f169 := Tryz.func27.trans (congrArg some (by kernel_rfl))
  f240 := Tryz.func44.trans (congrArg some (by kernel_rfl))
  f241 := Tryz.func64.trans (congrArg some (by kernel_rfl))
  f276 := Tryz.func55.trans (congrArg some (by kernel_rfl))
  f277 := Tryz.func76.trans (congrArg some (by kernel_rfl))
  t0 := Tryz.underlying0
  a0 := Tryz.isAgg0
  z0 := Tryz.sizeOf0
  v0 := Tryz.zeroValue0
  t3 := Tryz.underlying3
  a3 := Tryz.isAgg3
  z3 := Tryz.sizeOf3
  v3 := Tryz.zeroValue3
  t4 := Tryz.underlying4
  a4 := Tryz.isAgg4
  z4 := Tryz.sizeOf4
  v4 := Tryz.zeroValue4
  t9 := Tryz.underlying9
  a9 := Tryz.isAgg9
  z9 := Tryz.sizeOf9
  v9 := Tryz.zeroValue9
  t20 := Tryz.underlying20
  a20 := Tryz.isAgg20
  z20 := Tryz.sizeOf20
  v20 := Tryz.zeroValue20
  t31 := Tryz.underlying98
  a31 := Tryz.isAgg98
  z31 := Tryz.sizeOf98
  v31 := Tryz.zeroValue98
  t37 := Tryz.underlying67
  a37 := Tryz.isAgg67
  z37 := Tryz.sizeOf67
  v37 := Tryz.zeroValue67
  t70 := Tryz.underlying66
  a70 := Tryz.isAgg66
  z70 := Tryz.sizeOf66
  v70 := Tryz.zeroValue66
  t72 := Tryz.underlying69
  a72 := Tryz.isAgg69
  z72 := Tryz.sizeOf69
  v72 := Tryz.zeroValue69
  t75 := Tryz.underlying71
  a75 := Tryz.isAgg71
  z75 := Tryz.sizeOf71
  v75 := Tryz.zeroValue71
  t76 := Tryz.underlying72
  a76 := Tryz.isAgg72
  z76 := Tryz.sizeOf72
  v76 := Tryz.zeroValue72
  t127 := Tryz.underlying101
  a127 := Tryz.isAgg101
  z127 := Tryz.sizeOf101
  v127 := Tryz.zeroValue101
  t164 := Tryz.underlying110
  a164 := Tryz.isAgg110
  z164 := Tryz.sizeOf110
  v164 := Tryz.zeroValue110 }
theorem Tryz.Builder_Extra_156 : Builder.Extra Tryz.prog Tryz.lays156_ren := {
  sizeBuilder := by kernel_rfl
  liesBuilder := by kernel_rfl
  t5 := Tryz.underlying5
  a5 := Tryz.isAgg5
  z5 := Tryz.sizeOf5
  v5 := Tryz.zeroValue5
  infoByte := by kernel_rfl
  cellsByte := by kernel_rfl
  sizeByte := by kernel_rfl
  neB5 := by decide }
open Go.RowKit in
/-- No element: the empty string; the world is as it was. (Whatever the slice's address and capacity: a nil slice too.) (LAID: no walk: one application.) -/
theorem Tryz.strings_Join_none (a : Option Addr) (c : Nat) (sep : ByteArray) (w : World) :
    Calls Tryz.prog 46 #[.slice a 0 c, .string sep] w fun e w' => e = .returned (.string ⟨#[]⟩) ∧ w' = w := Any.strings_Join_none Tryz.lays156 Tryz.Builder_Extra_156 a c sep w
open Go.RowKit in
/-- strings.Join: "Join concatenates the elements of its first argument to create a single string. The separator string sep is placed between elements in the resulting string.": HOWEVER MANY ELEMENTS. Below the heap's end the world is as it was. (LAID: no walk: one application.) -/
theorem Tryz.strings_Join (bk o c : Nat) (xs : List ByteArray) (sep : ByteArray) (w : World) (hcells : ∀ (j : Nat) x, xs[j]? = some x → w.cell? ⟨bk, o + j, none⟩ = some (.string x)) (hbk : bk < w.heap.size) (hN : xs.length ≤ 140737488355328) (hcap : xs.length ≤ c) (hlen : (Lib.join (xs.map (·.data.toList)) sep.data.toList).length ≤ 140737488355328) :
    Calls Tryz.prog 46 #[.slice (some ⟨bk, o, none⟩) xs.length c, .string sep] w fun e w' => e = .returned (.string ⟨(Lib.join (xs.map (·.data.toList)) sep.data.toList).toArray⟩) ∧ Below w.heap.size w w' := Any.strings_Join Tryz.lays156 Tryz.Builder_Extra_156 bk o c xs sep w hcells hbk hN hcap hlen
end Go.Proofs

/- Chapter 53: Format's loop over a strings.Builder: from contracts of the library Vm to the kit's walk, and back. -/
set_option linter.unusedVariables false
set_option maxRecDepth 100000
set_option maxHeartbeats 4000000
namespace Go.Proofs.YtafongdfnpnneaaGreatDoor
open Go.Vm Go.RowKit

def no : Nat → Prop := fun _ => False
/-- a world of which no block is owned -/
def W0 (w : World) : Prop := HR no [] w []
theorem own_no : Own no [] = no := by
  funext b
  refine propext ⟨?_, fun h => .inl h⟩
  rintro (h | ⟨i, l, hi, _⟩)
  · exact h
  · simp at hi
theorem W0.of {O : Nat → Prop} {β : List Pl} {w : World} {H : List Ob} (h : HR O β w H) : W0 w :=
  ⟨rfl, fun i loc o hi => by simp at hi, fun i j l l' b hi => by simp at hi, fun b ⟨i, l, hi, _⟩ => by simp at hi, fun b ⟨i, l, hi, _⟩ => by simp at hi, fun b hb => hb.elim, by
    rw [own_no]; exact h.glob.sub fun b hb => hb.elim⟩
theorem ext_below {w w' : World} (h : Ext [] w [] w') : Below w.heap.size w w' := ⟨h.os, h.tape, h.output, h.size, fun k hk => h.keep k hk (fun ⟨i, l, hi, _⟩ => by simp at hi)⟩
theorem below_ext {β : List Pl} {w w' : World} (h : Below w.heap.size w w') (hβ : β = []) : Ext β w β w' := by
  subst hβ
  exact ⟨h.size, fun b hb _ => h.block b hb, h.os, h.tape, h.output, fun _ h => .inl h, fun i l hi => by simp at hi⟩
theorem W0.below {w w' : World} (h : W0 w) (hb : Below w.heap.size w w') : W0 w' :=
  ⟨rfl, fun i loc o hi => by simp at hi, fun i j l l' b hi => by simp at hi, fun b ⟨i, l, hi, _⟩ => by simp at hi, fun b ⟨i, l, hi, _⟩ => by simp at hi, fun b hb => hb.elim, h.glob.ext (below_ext hb rfl)⟩
theorem PC.calls {P : Program} {n : Nat} {args : List V} {v : V} (h : PC P n args v) {w : World} (hw : W0 w) {vals : List Value} (ha : VRs no w [] args vals) :
    Calls P n vals.toArray w fun e w' => ∃ u, e = .returned u ∧ VR no w' [] v u ∧ Below w.heap.size w w' := by
  refine ((h []).2 no [] w vals hw (by rw [own_no]; exact ha)).mono ?_
  rintro e w' ⟨u, β', rfl, g1, g2, g3⟩
  have hb : β' = [] := List.length_eq_zero_iff.1 g1.len
  subst hb
  rw [own_no] at g2
  exact ⟨u, rfl, g2, ext_below g3⟩
/-- a contract out of a walk of the kit's -/
theorem PC.ofCalls {P : Program} {n : Nat} {args : List V} {v : V} (hc : ∀ (vals : Array Value) (w : World), (callFunc n vals).run P w = .ok (.enter n vals) w) (ha : belAll 0 args = true) (hv : v.bel 0 = true)
    (h : ∀ (own : Nat → Prop) (w : World) (vals : List Value), W0 w → VRs own w [] args vals → Calls P n vals.toArray w fun e w' => ∃ u, e = .returned u ∧ (∀ own', VR own' w' [] v u) ∧ Below w.heap.size w w') : PC P n args v := by
  have h0 : GCall P n args [] v [] := by
    refine ⟨hc, fun O β w vals hh hva => ?_⟩
    have hb : β = [] := List.length_eq_zero_iff.1 hh.len
    subst hb
    refine (h _ w vals (W0.of hh) hva).mono ?_
    rintro e w' ⟨u, rfl, h1, h2⟩
    have he := below_ext h2 (β := []) rfl
    exact ⟨u, [], rfl, ⟨rfl, fun i loc o hi => by simp at hi, fun i j l l' b hi => by simp at hi, fun b ⟨i, l, hi, _⟩ => by simp at hi, fun b ⟨i, l, hi, _⟩ => by simp at hi, fun b hb => Nat.lt_of_lt_of_le (hh.old b hb) he.size, hh.glob.ext he⟩, h1 _, he⟩
  intro H
  have := GCall.frame h0 ha H
  rw [V.sh_bel v hv, shOs, List.append_nil] at this
  exact this
theorem bld_keep {T e : TypeId} {B b : Nat} {p : Value} {bs : List Value} {w w' : World} (h : Lib.BuilderAt T e B b p bs w) (hk : ∀ k, k < w.heap.size → w'.heap[k]? = w.heap[k]?) : Lib.BuilderAt T e B b p bs w' := by
  have hlt : ∀ (k : Nat) (o : Obj), w.heap[k]? = some o → k < w.heap.size := fun k o ho => (Array.getElem?_eq_some_iff.1 ho).1
  obtain ⟨hB, v, hb, hown, hne⟩ := h
  refine ⟨hB, v, by rw [hk b (hlt _ _ hb)]; exact hb, ⟨hown.1, ?_⟩, hne⟩
  rcases hown.2 with h | ⟨g, cap, cur, hv, hg0, hg, r⟩
  · exact .inl h
  · exact .inr ⟨g, cap, cur, hv, hg0, by rw [hk g (hlt _ _ hg)]; exact hg, r⟩
theorem isb_keep {T e : TypeId} {B b : Nat} {bs : List Value} {w w' : World} (h : Lib.IsBuilder T e B b bs w) (hk : ∀ k, k < w.heap.size → w'.heap[k]? = w.heap[k]?) : Lib.IsBuilder T e B b bs w' :=
  h.imp (fun h => bld_keep h hk) (fun h => bld_keep h hk)
/-- strings.Join -/
theorem VR_strs {own : Nat → Prop} {w : World} : ∀ {xs : List (List UInt8)} {vs : List Value}, VRs own w [] (xs.map V.str) vs → vs = xs.map fun x => Value.string ⟨x.toArray⟩
  | [], [], _ => rfl
  | x :: xs, v :: vs, h => by
    simp only [List.map_cons, VRs, VR] at h
    rw [List.map_cons, h.1, VR_strs h.2]
  | [], _ :: _, h => by simp [VRs] at h
  | _ :: _, [], h => by simp [VRs] at h
theorem join_eq : ∀ (xs : List (List UInt8)), Lib.join xs [32] = jnw xs
  | [] => rfl
  | [x] => by simp [Lib.join, jnw]
  | x :: y :: r => by
    rw [jnw, ← join_eq (y :: r)]
    simp [Lib.join]
theorem pc46 (xs : List (List UInt8)) (hN : xs.length ≤ 1000000) (hl : (jnw xs).length ≤ 1000000000) : PC Tryz.prog 46 [.sl false (xs.map V.str) xs.length, .str [32]] (.str (jnw xs)) := by
  refine PC.ofCalls Tryz.call46 (by rw [belAll_cons, bel_sl, belAll_map (fun _ => rfl) xs]; rfl) rfl ?_
  intro own w vals hw h
  match vals, h with
  | [a, s], h =>
    simp only [VRs, VR, and_true] at h
    obtain ⟨ha, rfl⟩ := h
    rcases ha with ⟨a', rfl, h0, _⟩ | ⟨_, bk, off, cap, l, rfl, hcap, hbk, _, hcells, hvs⟩
    · have : xs = [] := List.length_eq_zero_iff.1 h0
      subst this
      refine (Tryz.strings_Join_none a' 0 ⟨[32].toArray⟩ w).mono ?_
      rintro e w' ⟨rfl, rfl⟩
      exact ⟨_, rfl, fun _ => by simp [VR, jnw], Below.refl _ _⟩
    · have hl2 := VR_strs hvs
      subst hl2
      have hm : ((xs.map fun x => (⟨x.toArray⟩ : ByteArray)).map (·.data.toList)) = xs := by simp [List.map_map, Function.comp_def]
      have := Tryz.strings_Join bk off cap (xs.map fun x => (⟨x.toArray⟩ : ByteArray)) ⟨[32].toArray⟩ w (fun j x hx => by
        rw [List.getElem?_map, Option.map_eq_some_iff] at hx
        obtain ⟨y, hy, rfl⟩ := hx
        exact hcells j _ (by rw [List.getElem?_map, hy]; rfl)) hbk (by simp; omega) (by simpa using hcap) (by rw [hm]; show (Lib.join xs [32]).length ≤ _; rw [join_eq]; omega)
      rw [hm, List.length_map] at this
      refine this.mono ?_
      rintro e w' ⟨rfl, h2⟩
      refine ⟨_, rfl, fun _ => ?_, h2⟩
      simp only [VR]
      show _ = _
      rw [← join_eq]
  | [], h => simp [VRs] at h
  | [_], h => simp [VRs] at h
  | _ :: _ :: _ :: _, h => simp [VRs] at h
end Go.Proofs.YtafongdfnpnneaaGreatDoor

/- Chapter 53: Format of the program. -/
set_option linter.unusedVariables false
set_option linter.all false
set_option maxRecDepth 100000
set_option maxHeartbeats 4000000
namespace Go.Proofs.YtafongdfnpnneaaGreatDoor
open Go.Vm Go.RowKit

def encE (e : Ev) : List V := [.int .i64 e.k, .int .i64 e.a, .int .i64 e.b, .int .i64 e.c]
def agE (e : Ev) : V := .agg (encE e)
def slE (l : List Ev) : V := .sl false (l.flatMap encE) l.length
/-- the lines of a list of events -/
def txtE (l : List Ev) : List UInt8 := l.flatMap fun e => lineE e ++ [10]
/-- the first error of a list of events -/
def badE : List Ev → Int
  | [] => 0
  | e :: l => if chkE e = 0 then badE l else chkE e
def fmtE (l : List Ev) : List UInt8 × Int := if badE l ≠ 0 then ([], badE l) else if 16384 < (txtE l).length then ([], 4) else (txtE l, 0)
theorem badE_at : ∀ {l : List Ev} {k : Nat} {e : Ev}, l[k]? = some e → badE (l.take k) = 0 → ¬ chkE e = 0 → badE l = chkE e
  | [], _, _, h, _, _ => by simp at h
  | x :: l, 0, e, h, _, hn => by
    simp at h
    subst h
    rw [badE, if_neg hn]
  | x :: l, k + 1, e, h, hb, hn => by
    rw [List.getElem?_cons_succ] at h
    rw [List.take_succ_cons, badE] at hb
    split at hb
    · rename_i h0
      rw [badE, if_pos h0]
      exact badE_at h hb hn
    · rename_i h0
      exact absurd hb h0
theorem bad_step : ∀ {l : List Ev} {k : Nat} {e : Ev}, l[k]? = some e → badE (l.take k) = 0 → chkE e = 0 → badE (l.take (k + 1)) = 0
  | [], _, _, h, _, _ => by simp at h
  | x :: l, 0, e, h, _, hn => by
    simp at h
    subst h
    rw [List.take_succ_cons, badE, if_pos hn]; rfl
  | x :: l, k + 1, e, h, hb, hn => by
    rw [List.getElem?_cons_succ] at h
    rw [List.take_succ_cons, badE] at hb ⊢
    split at hb
    · rename_i h0
      rw [if_pos h0]
      exact bad_step h hb hn
    · rename_i h0
      exact absurd hb h0
theorem txt_step {l : List Ev} {k : Nat} {e : Ev} (h : l[k]? = some e) : txtE (l.take (k + 1)) = txtE (l.take k) ++ (lineE e ++ [10]) := by
  rw [txtE, List.take_succ, h, List.flatMap_append]
  simp [txtE]
theorem jnw_len : ∀ (ws : List (List UInt8)), (∀ w ∈ ws, w.length ≤ 9) → (jnw ws).length ≤ ws.length * 10
  | [], _ => by simp [jnw]
  | [w], h => by
    have := h w (List.mem_cons_self ..)
    simp [jnw]; omega
  | w :: v :: ws, h => by
    have h1 := h w (List.mem_cons_self ..)
    have h2 := jnw_len (v :: ws) (fun x hx => h x (List.mem_cons_of_mem _ hx))
    rw [jnw, List.length_append, List.length_cons]
    simp only [List.length_cons] at h2 ⊢
    omega
theorem line_len (e : Ev) : (lineE e).length ≤ 80 := by
  have hd := fun n => dgs_len 9 n
  have h1 : ∀ w ∈ (pat e).map (wd e), w.length ≤ 9 := by
    intro w hw
    simp only [List.mem_map] at hw
    obtain ⟨i, hi, rfl⟩ := hw
    cases i with
    | f i => exact hd _
    | w s =>
      simp only [wd]
      unfold pat at hi
      repeat' split at hi
      all_goals simp at hi
      all_goals (rcases hi with rfl | rfl | rfl | rfl | rfl <;> decide) <;> fail
  have h2 : (pat e).length ≤ 8 := by
    unfold pat
    repeat' split
    all_goals decide
  have h3 := jnw_len _ h1
  rw [List.length_map] at h3
  unfold lineE
  omega
theorem txt_len : ∀ (l : List Ev), (txtE l).length ≤ l.length * 81
  | [] => by simp [txtE]
  | e :: l => by
    have h1 := line_len e
    have h2 := txt_len l
    rw [txtE] at h2 ⊢
    rw [List.flatMap_cons, List.length_append, List.length_append, List.length_cons]
    simp only [List.length_cons, List.length_nil]
    omega
def vE (e : Ev) : Value := .agg #[.int .i64 e.k, .int .i64 e.a, .int .i64 e.b, .int .i64 e.c]
theorem vrE {own : Nat → Prop} {w : World} (e : Ev) : VRs own w [] [agE e] [vE e] := by
  simp only [VRs, VR, agE, vE, encE, and_true]
  exact ⟨_, rfl, by simp only [VRs, VR, and_true]⟩
theorem k20 {e : Ev} (h : PC Tryz.prog 22 [agE e] (.int .i64 (chkE e))) {w : World} (hw : W0 w) :
    Calls Tryz.prog 22 #[vE e] w fun x w' => x = .returned (.int .i64 (chkE e)) ∧ Below w.heap.size w w' := by
  refine (PC.calls h hw (vals := [vE e]) (vrE e)).mono ?_
  rintro x w' ⟨u, rfl, h1, h2⟩
  simp only [VR] at h1
  exact ⟨by rw [h1], h2⟩
theorem k22 {e : Ev} (h : PC Tryz.prog 24 [agE e] (.str (lineE e))) {w : World} (hw : W0 w) :
    Calls Tryz.prog 24 #[vE e] w fun x w' => x = .returned (.string ⟨(lineE e).toArray⟩) ∧ Below w.heap.size w w' := by
  refine (PC.calls h hw (vals := [vE e]) (vrE e)).mono ?_
  rintro x w' ⟨u, rfl, h1, h2⟩
  simp only [VR] at h1
  exact ⟨by rw [h1], h2⟩
theorem f8 (l : List Ev) (hl : l.length ≤ 400) (h20 : ∀ e ∈ l, PC Tryz.prog 22 [agE e] (.int .i64 (chkE e))) (h22 : ∀ e ∈ l, chkE e = 0 → PC Tryz.prog 24 [agE e] (.str (lineE e)))
    (bk off cap : Nat) (w : World) (hw : W0 w) (hcap : l.length ≤ cap) (hbk : bk < w.heap.size)
    (hc : ∀ (i : Nat) (e : Ev), l[i]? = some e → w.cell? ⟨bk, off + i * 4, none⟩ = some (.int .i64 e.k) ∧ w.cell? ⟨bk, off + i * 4 + 1, none⟩ = some (.int .i64 e.a) ∧ w.cell? ⟨bk, off + i * 4 + 2, none⟩ = some (.int .i64 e.b) ∧ w.cell? ⟨bk, off + i * 4 + 3, none⟩ = some (.int .i64 e.c)) :
    Calls Tryz.prog 11 #[.slice (some ⟨bk, off, none⟩) l.length cap] w fun x w' => x = .returned (.tuple #[.string ⟨(fmtE l).1.toArray⟩, .int .i64 (fmtE l).2]) ∧ Below w.heap.size w w' := by
  go_enter Tryz.func11, Tryz.ntmps11
  go_wp2
  go_loopw [10] (fun i w1 => ∃ k : Nat, k ≤ l.length ∧ i = .int .i64 k ∧ Lib.IsBuilder 69 5 w.heap.size w.heap.size (Lib.byteCells (txtE (l.take k))) w1 ∧ badE (l.take k) = 0 ∧ Below w.heap.size w w1)
    (fun i _ => l.length - (intOf i).toNat)
  case atStart =>
    refine ⟨0, Nat.zero_le _, rfl, .inl ⟨Nat.le_refl _, .slice none 0 0, ?_, ?_, ?_⟩, rfl, ?_⟩
    · exact heap_alloc_new w _
    · exact World.ownsRow_nil _ _ _ _
    · simp [Value.ownBlock]
    · exact (Below.refl _ w).alloc (Nat.le_refl _) _
  case round =>
    obtain ⟨k, hk, rfl, hb, hbad, hbel⟩ := hrel
    obtain ⟨e, he⟩ : ∃ e, e = l.getD k default := ⟨_, rfl⟩
    have hget : k < l.length → l[k]? = some e := fun h => by rw [he, List.getD_eq_getElem?_getD, List.getElem?_eq_getElem h]; rfl
    have hcell : ∀ j, wr.cell? ⟨bk, j, none⟩ = w.cell? ⟨bk, j, none⟩ := fun j => by simp only [World.cell?, hbel.block bk hbk]
    have x0 : k < l.length → wr.cell? ⟨bk, off + k * 4, none⟩ = some (.int .i64 e.k) := fun h => (hcell _).trans (hc k e (hget h)).1
    have x1 : k < l.length → wr.cell? ⟨bk, off + k * 4 + 1, none⟩ = some (.int .i64 e.a) := fun h => (hcell _).trans (hc k e (hget h)).2.1
    have x2 : k < l.length → wr.cell? ⟨bk, off + k * 4 + 2, none⟩ = some (.int .i64 e.b) := fun h => (hcell _).trans (hc k e (hget h)).2.2.1
    have x3 : k < l.length → wr.cell? ⟨bk, off + k * 4 + 3, none⟩ = some (.int .i64 e.c) := fun h => (hcell _).trans (hc k e (hget h)).2.2.2
    clear hcell he
    go_wp2_with (go_at_call 22; fail)
    · have hlt : k < l.length := by assumption
      have hmem : e ∈ l := List.mem_of_getElem? (hget hlt)
      have hsz := hbel.size
      have hbA : Below w.heap.size w (wr.alloc (.cells #[.int .i64 e.k, .int .i64 e.a, .int .i64 e.b, .int .i64 e.c] 38)) := hbel.alloc hsz _
      refine (k20 (h20 e hmem) (hw.below hbA)).mono ?_
      rintro x w2 ⟨rfl, hb2⟩
      have hsA : (wr.alloc (.cells #[.int .i64 e.k, .int .i64 e.a, .int .i64 e.b, .int .i64 e.c] 38)).heap.size = wr.heap.size + 1 := by simp
      have hbel2 : Below w.heap.size w w2 := hbA.trans (hb2.mono (by omega))
      have hB2 : Lib.IsBuilder 69 5 w.heap.size w.heap.size (Lib.byteCells (txtE (l.take k))) w2 := isb_keep hb fun j hj => by rw [hb2.block j (by omega)]; exact heap_alloc_old wr _ hj
      have hnew : w2.heap[wr.heap.size]? = some (.cells #[.int .i64 e.k, .int .i64 e.a, .int .i64 e.b, .int .i64 e.c] 38 (0, 0)) := by
        rw [hb2.block wr.heap.size (by omega)]; exact heap_alloc_new wr _
      have d0 : w2.cell? ⟨wr.heap.size, 0, none⟩ = some (.int .i64 e.k) := by rw [Lib.cell_of_heap hnew]; rfl
      have d1 : w2.cell? ⟨wr.heap.size, 1, none⟩ = some (.int .i64 e.a) := by rw [Lib.cell_of_heap hnew]; rfl
      have d2 : w2.cell? ⟨wr.heap.size, 2, none⟩ = some (.int .i64 e.b) := by rw [Lib.cell_of_heap hnew]; rfl
      have d3 : w2.cell? ⟨wr.heap.size, 3, none⟩ = some (.int .i64 e.c) := by rw [Lib.cell_of_heap hnew]; rfl
      have hs2 := hb2.size
      clear x0 x1 x2 x3 hb hbA hbel
      have hf := hget hlt
      clear hget hc
      go_wp2_with (go_at_call 24; fail)
      · have hne0 : (chkE e != 0) = true := by assumption
        have hne : ¬ chkE e = 0 := by simpa using hne0
        have hbd := badE_at hf hbad hne
        have hfm : fmtE l = ([], chkE e) := by rw [fmtE, hbd, if_pos hne]
        go_ret2
        rw [hfm]
        exact ⟨rfl, hbel2⟩
      · have hz0 : (chkE e != 0) = false := by assumption
        have hz : chkE e = 0 := by simpa using hz0
        refine (k22 (h22 e hmem hz) (hw.below hbel2)).mono ?_
        rintro x w3 ⟨rfl, hb3⟩
        have hs3 := hb3.size
        have hbel3 : Below w.heap.size w w3 := hbel2.trans (hb3.mono (by omega))
        have hB3 : Lib.IsBuilder 69 5 w.heap.size w.heap.size (Lib.byteCells (txtE (l.take k))) w3 := isb_keep hB2 fun j hj => hb3.block j hj
        have hln := line_len e
        have htl := txt_len (l.take k)
        have htk : (l.take k).length ≤ 400 := by rw [List.length_take]; omega
        have hsize : (⟨(lineE e).toArray⟩ : ByteArray).size = (lineE e).length := by simp [ByteArray.size]
        clear d0 d1 d2 d3 hnew hB2 hbel2
        go_wp2_with (go_at_call 23; fail)
        refine (wrS w.heap.size w.heap.size _ ⟨(lineE e).toArray⟩ w3 hB3 (by rw [Lib.byteCells_length, hsize]; omega) (by omega)).mono ?_
        rintro x w4 ⟨rfl, hB4, hb4⟩
        rw [Lib.strCells_eq, ← Lib.byteCells_append] at hB4
        have hs4 := hb4.size
        have hbel4 : Below w.heap.size w w4 := hbel3.trans hb4
        clear hB3 hbel3 hb4
        go_wp2_with (go_at_call 25; fail)
        refine (wrB w.heap.size w.heap.size _ 10 w4 (.inr hB4) (by rw [Lib.byteCells_length]; simp; omega) (by omega)).mono ?_
        rintro x w5 ⟨rfl, hB5, hb5⟩
        have hbel5 : Below w.heap.size w w5 := hbel4.trans hb5
        have hst := txt_step hf
        have hB6 : Lib.IsBuilder 69 5 w.heap.size w.heap.size (Lib.byteCells (txtE (l.take (k + 1)))) w5 := by
          rw [hst, Lib.byteCells_append, ← List.append_assoc] at *
          exact .inr (by simpa [Lib.byteCells] using hB5)
        have hbad2 := bad_step hf hbad hz
        clear hB4 hbel4 hB5
        go_wp2
        go_roundw
        case rel => exact ⟨k + 1, by omega, by go_num, hB6, hbad2, hbel5⟩
        case measure => simp [intOf]; omega
    · have hge : ¬ k < l.length := by assumption
      have hkl : k = l.length := by omega
      subst hkl
      rw [List.take_length] at hb hbad
      refine (Tryz.Builder_Len w.heap.size w.heap.size _ wr hb).mono ?_
      rintro x w2 ⟨rfl, rfl⟩
      have hlb := Lib.byteCells_length (txtE l)
      have hsz := hbel.size
      go_wp2_with (go_at_call 27; fail)
      · have h16 : (16384 : Int) < ((txtE l).length : Int) := by assumption
        have hfm : fmtE l = ([], 4) := by rw [fmtE, if_neg (by simpa using hbad), if_pos (by omega)]
        go_ret2
        rw [hfm]
        exact ⟨rfl, hbel⟩
      · have h16 : ((txtE l).length : Int) ≤ 16384 := by assumption
        have hfm : fmtE l = (txtE l, 0) := by rw [fmtE, if_neg (by simpa using hbad), if_neg (by omega)]
        refine (Tryz.Builder_String_any w.heap.size w.heap.size (txtE l) w2 hb hsz).mono ?_
        rintro x w3 ⟨rfl, hb3⟩
        go_wp2
        go_ret2
        rw [hfm]
        exact ⟨rfl, hbel.trans hb3⟩
theorem f8nil (ao : Option Addr) (w : World) : Calls Tryz.prog 11 #[.slice ao 0 0] w fun x w' => x = .returned (.tuple #[.string ⟨#[]⟩, .int .i64 0]) ∧ Below w.heap.size w w' := by
  go_enter Tryz.func11, Tryz.ntmps11
  go_wp2
  go_loopw [10] (fun i w1 => i = .int .i64 0 ∧ Lib.IsBuilder 69 5 w.heap.size w.heap.size (Lib.byteCells []) w1 ∧ Below w.heap.size w w1)
    (fun i _ => 1 - (intOf i).toNat)
  case atStart =>
    refine ⟨rfl, .inl ⟨Nat.le_refl _, .slice none 0 0, ?_, ?_, ?_⟩, ?_⟩
    · exact heap_alloc_new w _
    · exact World.ownsRow_nil _ _ _ _
    · simp [Value.ownBlock]
    · exact (Below.refl _ w).alloc (Nat.le_refl _) _
  case round =>
    obtain ⟨rfl, hb, hbel⟩ := hrel
    go_wp2_with (go_at_call 26; fail)
    refine (Tryz.Builder_Len w.heap.size w.heap.size _ wr hb).mono ?_
    rintro x w2 ⟨rfl, rfl⟩
    have hsz := hbel.size
    go_wp2_with (go_at_call 27; fail)
    refine (Tryz.Builder_String_any w.heap.size w.heap.size [] w2 hb hsz).mono ?_
    rintro x w3 ⟨rfl, hb3⟩
    go_wp2
    go_ret2
    exact ⟨rfl, hbel.trans hb3⟩
theorem VRs_nil {own : Nat → Prop} {w : World} {vs : List Value} (h : VRs own w [] [] vs) : vs = [] := by
  cases vs with
  | nil => rfl
  | cons => simp [VRs] at h
theorem flatE_get : ∀ {l : List Ev} {i : Nat} {e : Ev}, l[i]? = some e → (l.flatMap encE)[i * 4]? = some (.int .i64 e.k) ∧ (l.flatMap encE)[i * 4 + 1]? = some (.int .i64 e.a) ∧ (l.flatMap encE)[i * 4 + 2]? = some (.int .i64 e.b) ∧ (l.flatMap encE)[i * 4 + 3]? = some (.int .i64 e.c)
  | [], _, _, h => by simp at h
  | x :: l, 0, e, h => by
    simp at h
    subst h
    exact ⟨rfl, rfl, rfl, rfl⟩
  | x :: l, i + 1, e, h => by
    rw [List.getElem?_cons_succ] at h
    have := flatE_get h
    rw [List.flatMap_cons, show (i + 1) * 4 = i * 4 + 4 by omega]
    exact this
theorem belE {n : Nat} (x : Ev) : belAll n (encE x) = true := rfl
theorem pc11 (l : List Ev) (hl : l.length ≤ 400) (h20 : ∀ e ∈ l, PC Tryz.prog 22 [agE e] (.int .i64 (chkE e))) (h22 : ∀ e ∈ l, chkE e = 0 → PC Tryz.prog 24 [agE e] (.str (lineE e))) :
    PC Tryz.prog 11 [slE l] (.tup [.str (fmtE l).1, .int .i64 (fmtE l).2]) := by
  refine PC.ofCalls Tryz.call11 (by rw [slE, belAll_cons, bel_sl, belAll_flat belE l]; rfl) rfl ?_
  intro own w vals hw h
  have key : ∀ (bk off cap : Nat), l.length ≤ cap → bk < w.heap.size → (∀ (i : Nat) (e : Ev), l[i]? = some e → w.cell? ⟨bk, off + i * 4, none⟩ = some (.int .i64 e.k) ∧ w.cell? ⟨bk, off + i * 4 + 1, none⟩ = some (.int .i64 e.a) ∧ w.cell? ⟨bk, off + i * 4 + 2, none⟩ = some (.int .i64 e.b) ∧ w.cell? ⟨bk, off + i * 4 + 3, none⟩ = some (.int .i64 e.c)) →
      Calls Tryz.prog 11 #[.slice (some ⟨bk, off, none⟩) l.length cap] w fun e w' => ∃ u, e = .returned u ∧ (∀ own', VR own' w' [] (.tup [.str (fmtE l).1, .int .i64 (fmtE l).2]) u) ∧ Below w.heap.size w w' := fun bk off cap h1 h2 h3 => by
    refine (f8 l hl h20 h22 bk off cap w hw h1 h2 h3).mono ?_
    rintro x w' ⟨rfl, hb⟩
    refine ⟨_, rfl, fun own' => ?_, hb⟩
    simp only [VR]
    exact ⟨_, rfl, by simp only [VRs, VR, and_true]⟩
  match vals, h with
  | [a], h =>
    simp only [VRs, slE, VR, and_true] at h
    rcases h with ⟨a', rfl, h0, _⟩ | ⟨_, bk, off, cap, c, rfl, hcap, hbk, _, hcells, hvs⟩
    · have hl0 : l = [] := List.length_eq_zero_iff.1 h0
      subst hl0
      refine (f8nil a' w).mono ?_
      rintro x w' ⟨rfl, hb⟩
      refine ⟨_, rfl, fun own' => ?_, hb⟩
      simp only [VR]
      exact ⟨_, rfl, by simp only [VRs, VR, and_true]; exact ⟨rfl, rfl⟩⟩
    · refine key bk off cap hcap hbk fun i e he => ?_
      obtain ⟨g0, g1, g2, g3⟩ := flatE_get he
      have q : ∀ (j : Nat) (k : IntKind) (n : Int), (l.flatMap encE)[j]? = some (.int k n) → w.cell? ⟨bk, off + j, none⟩ = some (.int k n) := fun j k n hj => by
        obtain ⟨v, hv, hr⟩ := hvs.get hj
        simp only [VR] at hr
        subst hr
        exact hcells j _ hv
      exact ⟨q _ _ _ g0, q _ _ _ g1, q _ _ _ g2, q _ _ _ g3⟩
  | [], h => simp [VRs] at h
  | _ :: _ :: _, h => simp [VRs] at h
end Go.Proofs.YtafongdfnpnneaaGreatDoor

/- Chapter 53: the parts of an event's line; the check of an event's numbers. -/
set_option maxRecDepth 100000
set_option maxHeartbeats 4000000
set_option linter.all false
namespace Go.Proofs.YtafongdfnpnneaaGreatDoor
open Go.Vm

def vIt : It → V
  | .w s => .ifc 9 (.str s)
  | .f i => .ifc 96 (.ptr 0 0 i)
def slP (e : Ev) : V := .sl false ((pat e).map vIt) (pat e).length
theorem g36_1 (a b c : Int) : GCall Tryz.prog 43 [.ptr 0 0 0] [.cells 0 (encE ⟨1, a, b, c⟩)] (slP ⟨1, a, b, c⟩) [.cells 0 (encE ⟨1, a, b, c⟩)] := by
  refine GC.walk tok mixed cfg0 Tryz.func43 rfl Tryz.call43 ?_; simp (maxSteps := 2000000) -implicitDefEqProofs +contextual (disch := first | assumption | omega | decide +kernel) only [push_cast, ↓capI, br2_true, br2_false, frk_tt, frk_tf, frk_f, frkD_tt, frkD_tf, frkD_f, pk2_true, pk2_false, imp_true, seval, Nat.reduceLeDiff, Nat.reduceEqDiff, reduceCtorEq, ↓reduceIte, cfg0, encE, agE, Tryz.ntmps43]
  refine endG.ret ([]) (by first | rfl | simp [fzs_ok, getO, setO, fzs, fz, fzH, Nat.beq, cfg0, encE, agE, slP, pat, vIt, wPacket, wSent, wBy, wHost]) (by simp) (by simp [fzs_ok, imp, lenOK_iff, List.take_of_length_le, evRes, getT, getO, setO, fzs, fz, fzH, Nat.beq, retV, Res.then, ldT, ldR, mkV, getV, cfg0, encE, agE, Tryz.f43, slP, pat, vIt, wPacket, wSent, wBy, wHost]) (by first | rfl | simp [slP, pat, vIt, wPacket, wSent, wBy, wHost]) (by first | rfl | simp [slP, pat, vIt, wPacket, wSent, wBy, wHost])
theorem g36_2 (a b c : Int) (h : ¬ c = -1) : GCall Tryz.prog 43 [.ptr 0 0 0] [.cells 0 (encE ⟨2, a, b, c⟩)] (slP ⟨2, a, b, c⟩) [.cells 0 (encE ⟨2, a, b, c⟩)] := by
  refine GC.walk tok mixed cfg0 Tryz.func43 rfl Tryz.call43 ?_; simp (maxSteps := 2000000) -implicitDefEqProofs +contextual (disch := first | assumption | omega | decide +kernel) only [push_cast, ↓capI, br2_true, br2_false, frk_tt, frk_tf, frk_f, frkD_tt, frkD_tf, frkD_f, pk2_true, pk2_false, imp_true, seval, Nat.reduceLeDiff, Nat.reduceEqDiff, reduceCtorEq, ↓reduceIte, cfg0, encE, agE, Tryz.ntmps43]
  refine endG.ret ([]) (by first | rfl | simp [fzs_ok, getO, setO, fzs, fz, fzH, Nat.beq, cfg0, encE, agE, slP, pat, vIt, wPacket, wAt, wSwitch, wTo, wPort, h]) (by simp) (by simp [fzs_ok, imp, lenOK_iff, List.take_of_length_le, evRes, getT, getO, setO, fzs, fz, fzH, Nat.beq, retV, Res.then, ldT, ldR, mkV, getV, cfg0, encE, agE, Tryz.f43, slP, pat, vIt, wPacket, wAt, wSwitch, wTo, wPort, h]) (by first | rfl | simp [slP, pat, vIt, wPacket, wAt, wSwitch, wTo, wPort, h]) (by first | rfl | simp [slP, pat, vIt, wPacket, wAt, wSwitch, wTo, wPort, h])
theorem g36_2d (a b : Int) : GCall Tryz.prog 43 [.ptr 0 0 0] [.cells 0 (encE ⟨2, a, b, -1⟩)] (slP ⟨2, a, b, -1⟩) [.cells 0 (encE ⟨2, a, b, -1⟩)] := by
  refine GC.walk tok mixed cfg0 Tryz.func43 rfl Tryz.call43 ?_; simp (maxSteps := 2000000) -implicitDefEqProofs +contextual (disch := first | assumption | omega | decide +kernel) only [push_cast, ↓capI, br2_true, br2_false, frk_tt, frk_tf, frk_f, frkD_tt, frkD_tf, frkD_f, pk2_true, pk2_false, imp_true, seval, Nat.reduceLeDiff, Nat.reduceEqDiff, reduceCtorEq, ↓reduceIte, cfg0, encE, agE, Tryz.ntmps43]
  refine endG.ret ([]) (by first | rfl | simp [fzs_ok, getO, setO, fzs, fz, fzH, Nat.beq, cfg0, encE, agE, slP, pat, vIt, wPacket, wAt, wSwitch, wDropped]) (by simp) (by simp [fzs_ok, imp, lenOK_iff, List.take_of_length_le, evRes, getT, getO, setO, fzs, fz, fzH, Nat.beq, retV, Res.then, ldT, ldR, mkV, getV, cfg0, encE, agE, Tryz.f43, slP, pat, vIt, wPacket, wAt, wSwitch, wDropped]) (by first | rfl | simp [slP, pat, vIt, wPacket, wAt, wSwitch, wDropped]) (by first | rfl | simp [slP, pat, vIt, wPacket, wAt, wSwitch, wDropped])
theorem g36_3 (a b c : Int) : GCall Tryz.prog 43 [.ptr 0 0 0] [.cells 0 (encE ⟨3, a, b, c⟩)] (slP ⟨3, a, b, c⟩) [.cells 0 (encE ⟨3, a, b, c⟩)] := by
  refine GC.walk tok mixed cfg0 Tryz.func43 rfl Tryz.call43 ?_; simp (maxSteps := 2000000) -implicitDefEqProofs +contextual (disch := first | assumption | omega | decide +kernel) only [push_cast, ↓capI, br2_true, br2_false, frk_tt, frk_tf, frk_f, frkD_tt, frkD_tf, frkD_f, pk2_true, pk2_false, imp_true, seval, Nat.reduceLeDiff, Nat.reduceEqDiff, reduceCtorEq, ↓reduceIte, cfg0, encE, agE, Tryz.ntmps43]
  refine endG.ret ([]) (by first | rfl | simp [fzs_ok, getO, setO, fzs, fz, fzH, Nat.beq, cfg0, encE, agE, slP, pat, vIt, wPacket, wDelivered, wTo, wHost]) (by simp) (by simp [fzs_ok, imp, lenOK_iff, List.take_of_length_le, evRes, getT, getO, setO, fzs, fz, fzH, Nat.beq, retV, Res.then, ldT, ldR, mkV, getV, cfg0, encE, agE, Tryz.f43, slP, pat, vIt, wPacket, wDelivered, wTo, wHost]) (by first | rfl | simp [slP, pat, vIt, wPacket, wDelivered, wTo, wHost]) (by first | rfl | simp [slP, pat, vIt, wPacket, wDelivered, wTo, wHost])
theorem g36_4 (a b c : Int) : GCall Tryz.prog 43 [.ptr 0 0 0] [.cells 0 (encE ⟨4, a, b, c⟩)] (slP ⟨4, a, b, c⟩) [.cells 0 (encE ⟨4, a, b, c⟩)] := by
  refine GC.walk tok mixed cfg0 Tryz.func43 rfl Tryz.call43 ?_; simp (maxSteps := 2000000) -implicitDefEqProofs +contextual (disch := first | assumption | omega | decide +kernel) only [push_cast, ↓capI, br2_true, br2_false, frk_tt, frk_tf, frk_f, frkD_tt, frkD_tf, frkD_f, pk2_true, pk2_false, imp_true, seval, Nat.reduceLeDiff, Nat.reduceEqDiff, reduceCtorEq, ↓reduceIte, cfg0, encE, agE, Tryz.ntmps43]
  refine endG.ret ([]) (by first | rfl | simp [fzs_ok, getO, setO, fzs, fz, fzH, Nat.beq, cfg0, encE, agE, slP, pat, vIt, wPacket, wLost, wAt, wSwitch, wPort]) (by simp) (by simp [fzs_ok, imp, lenOK_iff, List.take_of_length_le, evRes, getT, getO, setO, fzs, fz, fzH, Nat.beq, retV, Res.then, ldT, ldR, mkV, getV, cfg0, encE, agE, Tryz.f43, slP, pat, vIt, wPacket, wLost, wAt, wSwitch, wPort]) (by first | rfl | simp [slP, pat, vIt, wPacket, wLost, wAt, wSwitch, wPort]) (by first | rfl | simp [slP, pat, vIt, wPacket, wLost, wAt, wSwitch, wPort])
theorem g36_5 (a b c : Int) : GCall Tryz.prog 43 [.ptr 0 0 0] [.cells 0 (encE ⟨5, a, b, c⟩)] (slP ⟨5, a, b, c⟩) [.cells 0 (encE ⟨5, a, b, c⟩)] := by
  refine GC.walk tok mixed cfg0 Tryz.func43 rfl Tryz.call43 ?_; simp (maxSteps := 2000000) -implicitDefEqProofs +contextual (disch := first | assumption | omega | decide +kernel) only [push_cast, ↓capI, br2_true, br2_false, frk_tt, frk_tf, frk_f, frkD_tt, frkD_tf, frkD_f, pk2_true, pk2_false, imp_true, seval, Nat.reduceLeDiff, Nat.reduceEqDiff, reduceCtorEq, ↓reduceIte, cfg0, encE, agE, Tryz.ntmps43]
  refine endG.ret ([]) (by first | rfl | simp [fzs_ok, getO, setO, fzs, fz, fzH, Nat.beq, cfg0, encE, agE, slP, pat, vIt, wPhase, wStep]) (by simp) (by simp [fzs_ok, imp, lenOK_iff, List.take_of_length_le, evRes, getT, getO, setO, fzs, fz, fzH, Nat.beq, retV, Res.then, ldT, ldR, mkV, getV, cfg0, encE, agE, Tryz.f43, slP, pat, vIt, wPhase, wStep]) (by first | rfl | simp [slP, pat, vIt, wPhase, wStep]) (by first | rfl | simp [slP, pat, vIt, wPhase, wStep])
theorem g36_6 (a b c : Int) (h : ¬ b = 1) : GCall Tryz.prog 43 [.ptr 0 0 0] [.cells 0 (encE ⟨6, a, b, c⟩)] (slP ⟨6, a, b, c⟩) [.cells 0 (encE ⟨6, a, b, c⟩)] := by
  refine GC.walk tok mixed cfg0 Tryz.func43 rfl Tryz.call43 ?_; simp (maxSteps := 2000000) -implicitDefEqProofs +contextual (disch := first | assumption | omega | decide +kernel) only [push_cast, ↓capI, br2_true, br2_false, frk_tt, frk_tf, frk_f, frkD_tt, frkD_tf, frkD_f, pk2_true, pk2_false, imp_true, seval, Nat.reduceLeDiff, Nat.reduceEqDiff, reduceCtorEq, ↓reduceIte, cfg0, encE, agE, Tryz.ntmps43]
  refine endG.ret ([]) (by first | rfl | simp [fzs_ok, getO, setO, fzs, fz, fzH, Nat.beq, cfg0, encE, agE, slP, pat, vIt, wLink, wUp, h]) (by simp) (by simp [fzs_ok, imp, lenOK_iff, List.take_of_length_le, evRes, getT, getO, setO, fzs, fz, fzH, Nat.beq, retV, Res.then, ldT, ldR, mkV, getV, cfg0, encE, agE, Tryz.f43, slP, pat, vIt, wLink, wUp, h]) (by first | rfl | simp [slP, pat, vIt, wLink, wUp, h]) (by first | rfl | simp [slP, pat, vIt, wLink, wUp, h])
theorem g36_6d (a c : Int) : GCall Tryz.prog 43 [.ptr 0 0 0] [.cells 0 (encE ⟨6, a, 1, c⟩)] (slP ⟨6, a, 1, c⟩) [.cells 0 (encE ⟨6, a, 1, c⟩)] := by
  refine GC.walk tok mixed cfg0 Tryz.func43 rfl Tryz.call43 ?_; simp (maxSteps := 2000000) -implicitDefEqProofs +contextual (disch := first | assumption | omega | decide +kernel) only [push_cast, ↓capI, br2_true, br2_false, frk_tt, frk_tf, frk_f, frkD_tt, frkD_tf, frkD_f, pk2_true, pk2_false, imp_true, seval, Nat.reduceLeDiff, Nat.reduceEqDiff, reduceCtorEq, ↓reduceIte, cfg0, encE, agE, Tryz.ntmps43]
  refine endG.ret ([]) (by first | rfl | simp [fzs_ok, getO, setO, fzs, fz, fzH, Nat.beq, cfg0, encE, agE, slP, pat, vIt, wLink, wDown]) (by simp) (by simp [fzs_ok, imp, lenOK_iff, List.take_of_length_le, evRes, getT, getO, setO, fzs, fz, fzH, Nat.beq, retV, Res.then, ldT, ldR, mkV, getV, cfg0, encE, agE, Tryz.f43, slP, pat, vIt, wLink, wDown]) (by first | rfl | simp [slP, pat, vIt, wLink, wDown]) (by first | rfl | simp [slP, pat, vIt, wLink, wDown])
theorem g36 (e : Ev) (h1 : 1 ≤ e.k) (h2 : e.k ≤ 6) : GCall Tryz.prog 43 [.ptr 0 0 0] [.cells 0 (encE e)] (slP e) [.cells 0 (encE e)] := by
  obtain ⟨k, a, b, c⟩ := e
  have : k = 1 ∨ k = 2 ∨ k = 3 ∨ k = 4 ∨ k = 5 ∨ k = 6 := by simp only at h1 h2; omega
  rcases this with rfl | rfl | rfl | rfl | rfl | rfl
  · exact g36_1 a b c
  · by_cases h : c = -1
    · subst h; exact g36_2d a b
    · exact g36_2 a b c h
  · exact g36_3 a b c
  · exact g36_4 a b c
  · exact g36_5 a b c
  · by_cases h : b = 1
    · subst h; exact g36_6d a c
    · exact g36_6 a b c h
end Go.Proofs.YtafongdfnpnneaaGreatDoor

/- Chapter 53: the check of an event's numbers. -/
set_option maxRecDepth 100000
set_option maxHeartbeats 4000000
set_option linter.all false
namespace Go.Proofs.YtafongdfnpnneaaGreatDoor
open Go.Vm

theorem bel_slP {n : Nat} (e : Ev) (h : 0 < n) : (slP e).bel n = true := by
  rw [slP, bel_sl, belAll_map]
  intro x
  cases x with
  | w s => rfl
  | f i => simp [vIt, bel_ifc, bel_ptr, h]
theorem bel_agE {n : Nat} (e : Ev) : (agE e).bel n = true := rfl
theorem bel_slM {n : Nat} (h : 0 < n) (l : List It) : belAll n (l.map vIt) = true := by
  refine belAll_map (fun x => ?_) l
  cases x with
  | w s => rfl
  | f i => simp [vIt, bel_ifc, bel_ptr, h]
theorem rns_vIt {q : Nat → Nat} (h : q 0 = 0) : ∀ (l : List It), rns q (l.map vIt) = l.map vIt
  | [] => rfl
  | .w s :: l => by simp only [List.map_cons, rns, vIt, V.rn, rns_vIt h l]
  | .f i :: l => by simp only [List.map_cons, rns, vIt, V.rn, rns_vIt h l, h]
theorem rn_map {k m : Nat} (l : List It) : V.rn (qn [0] k) (V.sl false (l.map vIt) m) = V.sl false (l.map vIt) m := by
  simp only [V.rn, rns_vIt (show qn [0] k 0 = 0 from rfl) l]
theorem rn_enc {q : Nat → Nat} (e : Ev) : rns q (encE e) = encE e := rfl
theorem pat_f {e : Ev} {i : Nat} (h : It.f i ∈ pat e) : i = 1 ∨ i = 2 ∨ i = 3 := by
  unfold pat at h
  repeat' split at h
  all_goals simp at h
  all_goals omega
theorem pat_len (e : Ev) : (pat e).length ≤ 8 := by
  unfold pat
  repeat' split
  all_goals decide
theorem pc22 (e : Ev) : PC Tryz.prog 22 [agE e] (.int .i64 (chkE e)) := by
  by_cases hk : e.k < 1 ∨ 6 < e.k
  · have hc : chkE e = 11 := by rw [chkE, if_pos hk]
    rw [hc]
    by_cases h1 : e.k < 1
    · refine PC.walk tok mixed cfg0 Tryz.func22 rfl Tryz.call22 (by simp [bel_agE, bel_slM]) (by first | rfl | simp [bel_agE, bel_slM]) ?_; simp (maxSteps := 2000000) -implicitDefEqProofs +contextual (disch := first | assumption | omega | decide +kernel) only [push_cast, ↓capI, br2_true, br2_false, frk_tt, frk_tf, frk_f, frkD_tt, frkD_tf, frkD_f, pk2_true, pk2_false, imp_true, seval, Nat.reduceLeDiff, Nat.reduceEqDiff, reduceCtorEq, ↓reduceIte, cfg0, encE, agE, rn_map, rn_enc, getV_map, List.length_map, qn, setPs, rnOs, Ob.rn, rns, V.rn, List.set_cons_zero, Nat.mul_one, Tryz.ntmps22]
      (try simp (maxSteps := 2000000) -implicitDefEqProofs +contextual (disch := first | assumption | omega | decide +kernel) only [push_cast, ↓capI, br2_true, br2_false, frk_tt, frk_tf, frk_f, frkD_tt, frkD_tf, frkD_f, pk2_true, pk2_false, imp_true, seval, Nat.reduceLeDiff, Nat.reduceEqDiff, reduceCtorEq, ↓reduceIte, cfg0, encE, agE, rn_map, rn_enc, getV_map, List.length_map, qn, setPs, rnOs, Ob.rn, rns, V.rn, List.set_cons_zero, Nat.mul_one, h1])
      refine endK.ret ?_ (by first | rfl | simp [bel_agE, bel_slM]); simp [evRes, getT, retV, Tryz.f22]
    · have h6 : 6 < e.k := by omega
      refine PC.walk tok mixed cfg0 Tryz.func22 rfl Tryz.call22 (by simp [bel_agE, bel_slM]) (by first | rfl | simp [bel_agE, bel_slM]) ?_; simp (maxSteps := 2000000) -implicitDefEqProofs +contextual (disch := first | assumption | omega | decide +kernel) only [push_cast, ↓capI, br2_true, br2_false, frk_tt, frk_tf, frk_f, frkD_tt, frkD_tf, frkD_f, pk2_true, pk2_false, imp_true, seval, Nat.reduceLeDiff, Nat.reduceEqDiff, reduceCtorEq, ↓reduceIte, cfg0, encE, agE, rn_map, rn_enc, getV_map, List.length_map, qn, setPs, rnOs, Ob.rn, rns, V.rn, List.set_cons_zero, Nat.mul_one, Tryz.ntmps22]
      (try simp (maxSteps := 2000000) -implicitDefEqProofs +contextual (disch := first | assumption | omega | decide +kernel) only [push_cast, ↓capI, br2_true, br2_false, frk_tt, frk_tf, frk_f, frkD_tt, frkD_tf, frkD_f, pk2_true, pk2_false, imp_true, seval, Nat.reduceLeDiff, Nat.reduceEqDiff, reduceCtorEq, ↓reduceIte, cfg0, encE, agE, rn_map, rn_enc, getV_map, List.length_map, qn, setPs, rnOs, Ob.rn, rns, V.rn, List.set_cons_zero, Nat.mul_one, h1, h6])
      refine endK.ret ?_ (by first | rfl | simp [bel_agE, bel_slM]); simp [evRes, getT, retV, Tryz.f22]
  have h1 : ¬ e.k < 1 := by omega
  have h6 : ¬ 6 < e.k := by omega
  have hpl := pat_len e
  refine PC.walk tok mixed cfg0 Tryz.func22 rfl Tryz.call22 (by simp [bel_agE, bel_slM]) (by first | rfl | simp [bel_agE, bel_slM]) ?_; simp (maxSteps := 2000000) -implicitDefEqProofs +contextual (disch := first | assumption | omega | decide +kernel) only [push_cast, ↓capI, br2_true, br2_false, frk_tt, frk_tf, frk_f, frkD_tt, frkD_tf, frkD_f, pk2_true, pk2_false, imp_true, seval, Nat.reduceLeDiff, Nat.reduceEqDiff, reduceCtorEq, ↓reduceIte, cfg0, encE, agE, rn_map, rn_enc, getV_map, List.length_map, qn, setPs, rnOs, Ob.rn, rns, V.rn, List.set_cons_zero, Nat.mul_one, Tryz.ntmps22]
  refine callO.part0 [0] (g36 e (by omega) (by omega)) (by decide) rfl rfl ⟨by rfl, by simp, trivial⟩ ?_
  simp (maxSteps := 2000000) -implicitDefEqProofs +contextual (disch := first | assumption | omega | decide +kernel) only [push_cast, ↓capI, br2_true, br2_false, frk_tt, frk_tf, frk_f, frkD_tt, frkD_tf, frkD_f, pk2_true, pk2_false, imp_true, seval, Nat.reduceLeDiff, Nat.reduceEqDiff, reduceCtorEq, ↓reduceIte, cfg0, encE, agE, rn_map, rn_enc, getV_map, List.length_map, qn, setPs, rnOs, Ob.rn, rns, V.rn, List.set_cons_zero, Nat.mul_one, slP]
  refine T.lp tok mixed cfg0 (fun (j : Nat) => dd 1 (kp 1 (dd 13 (kp 2 (sv (.int .i64 j) (dd 50 (nl))))))) (fun H0 (j : Nat) => H0) (fun (j : Nat) => j ≤ (pat e).length ∧ ((pat e).take j).all (okIt e) = true) (fun (j : Nat) => (pat e).length - j) (0) ?_ ?_ ?_
  · exact ⟨Nat.zero_le _, rfl⟩
  · exact Gn.canon (J := _) (by first | rfl | (simp [List.append_nil]; done) | (simp [List.append_nil]; rfl)) (by simp [wk, putT, kp, dd, sv, nl]) (by simp [List.length_append]) (by simp [bel_agE, bel_slM, kp, dd, sv, nl]) (by simp [bel_agE, bel_slM])
  intro j ⟨hj, hok⟩
  simp (maxSteps := 2000000) -implicitDefEqProofs +contextual (disch := first | assumption | omega | decide +kernel) only [push_cast, ↓capI, br2_true, br2_false, frk_tt, frk_tf, frk_f, frkD_tt, frkD_tf, frkD_f, pk2_true, pk2_false, imp_true, seval, Nat.reduceLeDiff, Nat.reduceEqDiff, reduceCtorEq, ↓reduceIte, cfg0, encE, agE, rn_map, rn_enc, getV_map, List.length_map, qn, setPs, rnOs, Ob.rn, rns, V.rn, List.set_cons_zero, Nat.mul_one]
  refine ⟨fun hlt => ?_, fun hge => ?_⟩
  · have hlt2 : j < (pat e).length := by omega
    have hget : (pat e)[j]? = some (pat e)[j] := List.getElem?_eq_getElem hlt2
    have hmem : (pat e)[j] ∈ pat e := List.getElem_mem hlt2
    have hstep : okIt e (pat e)[j] = true → ((pat e).take (j + 1)).all (okIt e) = true := fun h => by
      rw [List.take_succ, hget, List.all_append, hok]
      simpa using h
    have hbad : okIt e (pat e)[j] = false → chkE e = 9 := fun h => by
      rw [chkE, if_neg hk, if_pos]
      apply Bool.eq_false_iff.2
      intro h2
      rw [List.all_eq_true] at h2
      rw [h2 _ hmem] at h
      cases h
    generalize (pat e)[j] = it at hmem hstep hbad ⊢
    cases it with
    | w t =>
      simp (maxSteps := 2000000) -implicitDefEqProofs +contextual (disch := first | assumption | omega | decide +kernel) only [push_cast, ↓capI, br2_true, br2_false, frk_tt, frk_tf, frk_f, frkD_tt, frkD_tf, frkD_f, pk2_true, pk2_false, imp_true, seval, Nat.reduceLeDiff, Nat.reduceEqDiff, reduceCtorEq, ↓reduceIte, cfg0, encE, agE, rn_map, rn_enc, getV_map, List.length_map, qn, setPs, rnOs, Ob.rn, rns, V.rn, List.set_cons_zero, Nat.mul_one, vIt]
      refine ⟨j + 1, ⟨by omega, hstep rfl⟩, by (try simp only); omega, ?_⟩; exact Gn.canon (by first | rfl | (simp [List.append_nil]; rfl)) (by simp [wk]) (by simp [List.length_append]) (by simp [bel_agE, bel_slM]) (by simp [bel_agE, bel_slM])
    | f i =>
      have hi := pat_f hmem
      have hone : ∀ n : Int, fld e i = n → n < 0 → chkE e = 9 := fun n h h0 => hbad (by simp only [okIt, okN, h]; rw [Bool.and_eq_false_iff]; left; simpa using h0)
      have htwo : ∀ n : Int, fld e i = n → 999999999 < n → chkE e = 9 := fun n h h0 => hbad (by simp only [okIt, okN, h]; rw [Bool.and_eq_false_iff]; right; simpa using h0)
      have hthr : ∀ n : Int, fld e i = n → ¬ n < 0 → ¬ 999999999 < n → okIt e (.f i) = true := fun n h h0 h9 => by simp only [okIt, okN, h]; rw [Bool.and_eq_true]; exact ⟨by simpa using h0, by simpa using h9⟩
      rcases hi with rfl | rfl | rfl
      · by_cases ha : e.a < 0
        · have hc := hone _ rfl ha
          simp (maxSteps := 2000000) -implicitDefEqProofs +contextual (disch := first | assumption | omega | decide +kernel) only [push_cast, ↓capI, br2_true, br2_false, frk_tt, frk_tf, frk_f, frkD_tt, frkD_tf, frkD_f, pk2_true, pk2_false, imp_true, seval, Nat.reduceLeDiff, Nat.reduceEqDiff, reduceCtorEq, ↓reduceIte, cfg0, encE, agE, rn_map, rn_enc, getV_map, List.length_map, qn, setPs, rnOs, Ob.rn, rns, V.rn, List.set_cons_zero, Nat.mul_one, vIt, ha]
          refine endK.ret ?_ (by first | rfl | simp [bel_agE, bel_slM]); simp [evRes, getT, retV, Tryz.f22,  hc]
        · by_cases hb : 999999999 < e.a
          · have hc := htwo _ rfl hb
            simp (maxSteps := 2000000) -implicitDefEqProofs +contextual (disch := first | assumption | omega | decide +kernel) only [push_cast, ↓capI, br2_true, br2_false, frk_tt, frk_tf, frk_f, frkD_tt, frkD_tf, frkD_f, pk2_true, pk2_false, imp_true, seval, Nat.reduceLeDiff, Nat.reduceEqDiff, reduceCtorEq, ↓reduceIte, cfg0, encE, agE, rn_map, rn_enc, getV_map, List.length_map, qn, setPs, rnOs, Ob.rn, rns, V.rn, List.set_cons_zero, Nat.mul_one, vIt, ha, hb]
            refine endK.ret ?_ (by first | rfl | simp [bel_agE, bel_slM]); simp [evRes, getT, retV, Tryz.f22,  hc]
          · have hc := hstep (hthr _ rfl ha hb)
            simp (maxSteps := 2000000) -implicitDefEqProofs +contextual (disch := first | assumption | omega | decide +kernel) only [push_cast, ↓capI, br2_true, br2_false, frk_tt, frk_tf, frk_f, frkD_tt, frkD_tf, frkD_f, pk2_true, pk2_false, imp_true, seval, Nat.reduceLeDiff, Nat.reduceEqDiff, reduceCtorEq, ↓reduceIte, cfg0, encE, agE, rn_map, rn_enc, getV_map, List.length_map, qn, setPs, rnOs, Ob.rn, rns, V.rn, List.set_cons_zero, Nat.mul_one, vIt, ha, hb]
            refine ⟨j + 1, ⟨by omega, hc⟩, by (try simp only); omega, ?_⟩; exact Gn.canon (by first | rfl | (simp [List.append_nil]; rfl)) (by simp [wk]) (by simp [List.length_append]) (by simp [bel_agE, bel_slM]) (by simp [bel_agE, bel_slM])
      · by_cases ha : e.b < 0
        · have hc := hone _ rfl ha
          simp (maxSteps := 2000000) -implicitDefEqProofs +contextual (disch := first | assumption | omega | decide +kernel) only [push_cast, ↓capI, br2_true, br2_false, frk_tt, frk_tf, frk_f, frkD_tt, frkD_tf, frkD_f, pk2_true, pk2_false, imp_true, seval, Nat.reduceLeDiff, Nat.reduceEqDiff, reduceCtorEq, ↓reduceIte, cfg0, encE, agE, rn_map, rn_enc, getV_map, List.length_map, qn, setPs, rnOs, Ob.rn, rns, V.rn, List.set_cons_zero, Nat.mul_one, vIt, ha]
          refine endK.ret ?_ (by first | rfl | simp [bel_agE, bel_slM]); simp [evRes, getT, retV, Tryz.f22,  hc]
        · by_cases hb : 999999999 < e.b
          · have hc := htwo _ rfl hb
            simp (maxSteps := 2000000) -implicitDefEqProofs +contextual (disch := first | assumption | omega | decide +kernel) only [push_cast, ↓capI, br2_true, br2_false, frk_tt, frk_tf, frk_f, frkD_tt, frkD_tf, frkD_f, pk2_true, pk2_false, imp_true, seval, Nat.reduceLeDiff, Nat.reduceEqDiff, reduceCtorEq, ↓reduceIte, cfg0, encE, agE, rn_map, rn_enc, getV_map, List.length_map, qn, setPs, rnOs, Ob.rn, rns, V.rn, List.set_cons_zero, Nat.mul_one, vIt, ha, hb]
            refine endK.ret ?_ (by first | rfl | simp [bel_agE, bel_slM]); simp [evRes, getT, retV, Tryz.f22,  hc]
          · have hc := hstep (hthr _ rfl ha hb)
            simp (maxSteps := 2000000) -implicitDefEqProofs +contextual (disch := first | assumption | omega | decide +kernel) only [push_cast, ↓capI, br2_true, br2_false, frk_tt, frk_tf, frk_f, frkD_tt, frkD_tf, frkD_f, pk2_true, pk2_false, imp_true, seval, Nat.reduceLeDiff, Nat.reduceEqDiff, reduceCtorEq, ↓reduceIte, cfg0, encE, agE, rn_map, rn_enc, getV_map, List.length_map, qn, setPs, rnOs, Ob.rn, rns, V.rn, List.set_cons_zero, Nat.mul_one, vIt, ha, hb]
            refine ⟨j + 1, ⟨by omega, hc⟩, by (try simp only); omega, ?_⟩; exact Gn.canon (by first | rfl | (simp [List.append_nil]; rfl)) (by simp [wk]) (by simp [List.length_append]) (by simp [bel_agE, bel_slM]) (by simp [bel_agE, bel_slM])
      · by_cases ha : e.c < 0
        · have hc := hone _ rfl ha
          simp (maxSteps := 2000000) -implicitDefEqProofs +contextual (disch := first | assumption | omega | decide +kernel) only [push_cast, ↓capI, br2_true, br2_false, frk_tt, frk_tf, frk_f, frkD_tt, frkD_tf, frkD_f, pk2_true, pk2_false, imp_true, seval, Nat.reduceLeDiff, Nat.reduceEqDiff, reduceCtorEq, ↓reduceIte, cfg0, encE, agE, rn_map, rn_enc, getV_map, List.length_map, qn, setPs, rnOs, Ob.rn, rns, V.rn, List.set_cons_zero, Nat.mul_one, vIt, ha]
          refine endK.ret ?_ (by first | rfl | simp [bel_agE, bel_slM]); simp [evRes, getT, retV, Tryz.f22,  hc]
        · by_cases hb : 999999999 < e.c
          · have hc := htwo _ rfl hb
            simp (maxSteps := 2000000) -implicitDefEqProofs +contextual (disch := first | assumption | omega | decide +kernel) only [push_cast, ↓capI, br2_true, br2_false, frk_tt, frk_tf, frk_f, frkD_tt, frkD_tf, frkD_f, pk2_true, pk2_false, imp_true, seval, Nat.reduceLeDiff, Nat.reduceEqDiff, reduceCtorEq, ↓reduceIte, cfg0, encE, agE, rn_map, rn_enc, getV_map, List.length_map, qn, setPs, rnOs, Ob.rn, rns, V.rn, List.set_cons_zero, Nat.mul_one, vIt, ha, hb]
            refine endK.ret ?_ (by first | rfl | simp [bel_agE, bel_slM]); simp [evRes, getT, retV, Tryz.f22,  hc]
          · have hc := hstep (hthr _ rfl ha hb)
            simp (maxSteps := 2000000) -implicitDefEqProofs +contextual (disch := first | assumption | omega | decide +kernel) only [push_cast, ↓capI, br2_true, br2_false, frk_tt, frk_tf, frk_f, frkD_tt, frkD_tf, frkD_f, pk2_true, pk2_false, imp_true, seval, Nat.reduceLeDiff, Nat.reduceEqDiff, reduceCtorEq, ↓reduceIte, cfg0, encE, agE, rn_map, rn_enc, getV_map, List.length_map, qn, setPs, rnOs, Ob.rn, rns, V.rn, List.set_cons_zero, Nat.mul_one, vIt, ha, hb]
            refine ⟨j + 1, ⟨by omega, hc⟩, by (try simp only); omega, ?_⟩; exact Gn.canon (by first | rfl | (simp [List.append_nil]; rfl)) (by simp [wk]) (by simp [List.length_append]) (by simp [bel_agE, bel_slM]) (by simp [bel_agE, bel_slM])
  · have hje : j = (pat e).length := by omega
    subst hje
    rw [List.take_length] at hok
    have hc : chkE e = if (e.k = 5 ∧ (e.a < 1 ∨ 3 < e.a)) ∨ (e.k = 6 ∧ (e.b < 0 ∨ 1 < e.b)) then 9 else 0 := by
      rw [chkE, if_neg hk, if_neg (by rw [hok]; simp)]
    rw [hc]
    by_cases h5 : e.k = 5
    · have h6 : ¬ (5 : Int) = 6 := by omega
      by_cases ha : e.a < 1
      · rw [if_pos (.inl ⟨h5, .inl ha⟩)]
        simp (maxSteps := 2000000) -implicitDefEqProofs +contextual (disch := first | assumption | omega | decide +kernel) only [push_cast, ↓capI, br2_true, br2_false, frk_tt, frk_tf, frk_f, frkD_tt, frkD_tf, frkD_f, pk2_true, pk2_false, imp_true, seval, Nat.reduceLeDiff, Nat.reduceEqDiff, reduceCtorEq, ↓reduceIte, cfg0, encE, agE, rn_map, rn_enc, getV_map, List.length_map, qn, setPs, rnOs, Ob.rn, rns, V.rn, List.set_cons_zero, Nat.mul_one, h5, ha]
        refine endK.ret ?_ (by first | rfl | simp [bel_agE, bel_slM]); simp [evRes, getT, retV, Tryz.f22]
      · by_cases hb : 3 < e.a
        · rw [if_pos (.inl ⟨h5, .inr hb⟩)]
          simp (maxSteps := 2000000) -implicitDefEqProofs +contextual (disch := first | assumption | omega | decide +kernel) only [push_cast, ↓capI, br2_true, br2_false, frk_tt, frk_tf, frk_f, frkD_tt, frkD_tf, frkD_f, pk2_true, pk2_false, imp_true, seval, Nat.reduceLeDiff, Nat.reduceEqDiff, reduceCtorEq, ↓reduceIte, cfg0, encE, agE, rn_map, rn_enc, getV_map, List.length_map, qn, setPs, rnOs, Ob.rn, rns, V.rn, List.set_cons_zero, Nat.mul_one, h5, ha, hb]
          refine endK.ret ?_ (by first | rfl | simp [bel_agE, bel_slM]); simp [evRes, getT, retV, Tryz.f22]
        · rw [if_neg (by omega)]
          simp (maxSteps := 2000000) -implicitDefEqProofs +contextual (disch := first | assumption | omega | decide +kernel) only [push_cast, ↓capI, br2_true, br2_false, frk_tt, frk_tf, frk_f, frkD_tt, frkD_tf, frkD_f, pk2_true, pk2_false, imp_true, seval, Nat.reduceLeDiff, Nat.reduceEqDiff, reduceCtorEq, ↓reduceIte, cfg0, encE, agE, rn_map, rn_enc, getV_map, List.length_map, qn, setPs, rnOs, Ob.rn, rns, V.rn, List.set_cons_zero, Nat.mul_one, h5, ha, hb, h6]
          refine endK.ret ?_ (by first | rfl | simp [bel_agE, bel_slM]); simp [evRes, getT, retV, Tryz.f22]
    · by_cases h6 : e.k = 6
      · by_cases ha : e.b < 0
        · rw [if_pos (.inr ⟨h6, .inl ha⟩)]
          simp (maxSteps := 2000000) -implicitDefEqProofs +contextual (disch := first | assumption | omega | decide +kernel) only [push_cast, ↓capI, br2_true, br2_false, frk_tt, frk_tf, frk_f, frkD_tt, frkD_tf, frkD_f, pk2_true, pk2_false, imp_true, seval, Nat.reduceLeDiff, Nat.reduceEqDiff, reduceCtorEq, ↓reduceIte, cfg0, encE, agE, rn_map, rn_enc, getV_map, List.length_map, qn, setPs, rnOs, Ob.rn, rns, V.rn, List.set_cons_zero, Nat.mul_one, h6, ha]
          refine endK.ret ?_ (by first | rfl | simp [bel_agE, bel_slM]); simp [evRes, getT, retV, Tryz.f22]
        · by_cases hb : 1 < e.b
          · rw [if_pos (.inr ⟨h6, .inr hb⟩)]
            simp (maxSteps := 2000000) -implicitDefEqProofs +contextual (disch := first | assumption | omega | decide +kernel) only [push_cast, ↓capI, br2_true, br2_false, frk_tt, frk_tf, frk_f, frkD_tt, frkD_tf, frkD_f, pk2_true, pk2_false, imp_true, seval, Nat.reduceLeDiff, Nat.reduceEqDiff, reduceCtorEq, ↓reduceIte, cfg0, encE, agE, rn_map, rn_enc, getV_map, List.length_map, qn, setPs, rnOs, Ob.rn, rns, V.rn, List.set_cons_zero, Nat.mul_one, h6, ha, hb]
            refine endK.ret ?_ (by first | rfl | simp [bel_agE, bel_slM]); simp [evRes, getT, retV, Tryz.f22]
          · rw [if_neg (by omega)]
            simp (maxSteps := 2000000) -implicitDefEqProofs +contextual (disch := first | assumption | omega | decide +kernel) only [push_cast, ↓capI, br2_true, br2_false, frk_tt, frk_tf, frk_f, frkD_tt, frkD_tf, frkD_f, pk2_true, pk2_false, imp_true, seval, Nat.reduceLeDiff, Nat.reduceEqDiff, reduceCtorEq, ↓reduceIte, cfg0, encE, agE, rn_map, rn_enc, getV_map, List.length_map, qn, setPs, rnOs, Ob.rn, rns, V.rn, List.set_cons_zero, Nat.mul_one, h6, ha, hb]
            refine endK.ret ?_ (by first | rfl | simp [bel_agE, bel_slM]); simp [evRes, getT, retV, Tryz.f22]
      · rw [if_neg (by omega)]
        simp (maxSteps := 2000000) -implicitDefEqProofs +contextual (disch := first | assumption | omega | decide +kernel) only [push_cast, ↓capI, br2_true, br2_false, frk_tt, frk_tf, frk_f, frkD_tt, frkD_tf, frkD_f, pk2_true, pk2_false, imp_true, seval, Nat.reduceLeDiff, Nat.reduceEqDiff, reduceCtorEq, ↓reduceIte, cfg0, encE, agE, rn_map, rn_enc, getV_map, List.length_map, qn, setPs, rnOs, Ob.rn, rns, V.rn, List.set_cons_zero, Nat.mul_one, h5, h6]
        refine endK.ret ?_ (by first | rfl | simp [bel_agE, bel_slM]); simp [evRes, getT, retV, Tryz.f22]
end Go.Proofs.YtafongdfnpnneaaGreatDoor

/- Chapter 53: the line of an event, by the program. -/
set_option maxRecDepth 100000
set_option maxHeartbeats 4000000
set_option linter.all false
namespace Go.Proofs.YtafongdfnpnneaaGreatDoor
open Go.Vm

def vWd (e : Ev) (it : It) : V := .str (wd e it)
theorem bel_wds {n : Nat} (e : Ev) (l : List It) : belAll n (l.map (vWd e)) = true := belAll_map (fun _ => rfl) l
theorem bel_wdt {n k : Nat} (e : Ev) (l : List It) : belAll n ((l.map (vWd e)).take k) = true := by rw [← List.map_take]; exact bel_wds e _
theorem map_step {α : Type} {f : α → V} {l : List α} {j : Nat} (h : j < l.length) : (l.take (j + 1)).map f = (l.take j).map f ++ [f l[j]] := by
  rw [List.take_add_one, List.getElem?_eq_getElem h, List.map_append]; rfl
theorem pc24 (e : Ev) (hc : chkE e = 0) : PC Tryz.prog 24 [agE e] (.str (lineE e)) := by
  have hk : ¬ (e.k < 1 ∨ 6 < e.k) := fun h => by rw [chkE, if_pos h] at hc; omega
  have hall : (pat e).all (okIt e) = true := by
    rw [chkE, if_neg hk] at hc
    cases h : (pat e).all (okIt e) with
    | true => rfl
    | false => rw [if_pos h] at hc; omega
  have hpl := pat_len e
  refine PC.walk tok mixed cfg0 Tryz.func24 rfl Tryz.call24 (by simp [bel_agE, bel_slM, bel_wds, bel_wdt]) (by first | rfl | simp [bel_agE, bel_slM, bel_wds, bel_wdt]) ?_; simp (maxSteps := 2000000) -implicitDefEqProofs +contextual (disch := first | assumption | omega | decide +kernel) only [push_cast, ↓capI, br2_true, br2_false, frk_tt, frk_tf, frk_f, frkD_tt, frkD_tf, frkD_f, pk2_true, pk2_false, imp_true, seval, Nat.reduceLeDiff, Nat.reduceEqDiff, reduceCtorEq, ↓reduceIte, cfg0, encE, agE, rn_map, rn_enc, getV_map, List.length_map, qn, setPs, rnOs, Ob.rn, rns, V.rn, List.set_cons_zero, Nat.mul_one, Tryz.ntmps24]
  refine callO.part0 [0] (g36 e (by omega) (by omega)) (by decide) rfl rfl ⟨by rfl, by simp, trivial⟩ ?_
  simp (maxSteps := 2000000) -implicitDefEqProofs +contextual (disch := first | assumption | omega | decide +kernel) only [push_cast, ↓capI, br2_true, br2_false, frk_tt, frk_tf, frk_f, frkD_tt, frkD_tf, frkD_f, pk2_true, pk2_false, imp_true, seval, Nat.reduceLeDiff, Nat.reduceEqDiff, reduceCtorEq, ↓reduceIte, cfg0, encE, agE, rn_map, rn_enc, getV_map, List.length_map, qn, setPs, rnOs, Ob.rn, rns, V.rn, List.set_cons_zero, Nat.mul_one, slP]
  refine T.lp tok mixed cfg0 (fun ((j, ver) : Nat × Nat) => dd 3 (sv (.buf 1 ver 0 j 1) (dd 4 (kp 2 (sv (.int .i64 j) (dd 24 (nl))))))) (fun H0 ((j, ver) : Nat × Nat) => [.cells 0 (encE e), .cells ver (((pat e).take j).map (vWd e))]) (fun ((j, ver) : Nat × Nat) => j ≤ (pat e).length) (fun ((j, ver) : Nat × Nat) => (pat e).length - j) ((0, 0)) ?_ ?_ ?_
  · exact Nat.zero_le _
  · refine (Gn.ownNil (t := 3) (sz := 1) rfl).trans ?_
    exact Gn.canon (J := []) (by first | rfl | (simp [List.append_nil]; done)) (by simp [wk, putT, kp, dd, sv, nl]) (by simp [List.length_append]) (by simp [bel_agE, bel_slM, bel_wds, bel_wdt, encE, kp, dd, sv, nl]) (by simp [bel_agE, bel_slM, bel_wds, bel_wdt, encE])
  · rintro ⟨j, ver⟩ hj
    simp only at hj
    simp (maxSteps := 2000000) -implicitDefEqProofs +contextual (disch := first | assumption | omega | decide +kernel) only [push_cast, ↓capI, br2_true, br2_false, frk_tt, frk_tf, frk_f, frkD_tt, frkD_tf, frkD_f, pk2_true, pk2_false, imp_true, seval, Nat.reduceLeDiff, Nat.reduceEqDiff, reduceCtorEq, ↓reduceIte, cfg0, encE, agE, rn_map, rn_enc, getV_map, List.length_map, qn, setPs, rnOs, Ob.rn, rns, V.rn, List.set_cons_zero, Nat.mul_one]
    refine ⟨fun hlt => ?_, fun hge => ?_⟩
    · have hlt2 : j < (pat e).length := by omega
      have hst := map_step (f := vWd e) hlt2
      have hmem : (pat e)[j] ∈ pat e := List.getElem_mem hlt2
      have hok : okIt e (pat e)[j] = true := (List.all_eq_true.1 hall) _ hmem
      generalize (pat e)[j] = it at hmem hst hok ⊢
      cases it with
      | w t =>
        simp (maxSteps := 2000000) -implicitDefEqProofs +contextual (disch := first | assumption | omega | decide +kernel) only [push_cast, ↓capI, br2_true, br2_false, frk_tt, frk_tf, frk_f, frkD_tt, frkD_tf, frkD_f, pk2_true, pk2_false, imp_true, seval, Nat.reduceLeDiff, Nat.reduceEqDiff, reduceCtorEq, ↓reduceIte, cfg0, encE, agE, rn_map, rn_enc, getV_map, List.length_map, qn, setPs, rnOs, Ob.rn, rns, V.rn, List.set_cons_zero, Nat.mul_one, vIt]
        refine ⟨(j + 1, ver + 1), hlt2, by simp only; omega, ?_⟩
        exact Gn.canon (J := []) (by simp [hst, vWd, wd, encE]) (by simp [wk]) (by simp) (by simp [bel_agE, bel_slM, bel_wds, bel_wdt]) (by simp [bel_agE, bel_slM, bel_wds, bel_wdt, encE])
      | f i =>
        have hi := pat_f hmem
        have h38 : ∀ n : Int, fld e i = n → PC Tryz.prog 45 [.int .i64 n] (.str (dgs 9 n.toNat)) := fun n hn => by
          simp only [okIt, okN, hn, Bool.and_eq_true, decide_eq_true_eq] at hok
          obtain ⟨m, hm⟩ := Int.eq_ofNat_of_zero_le hok.1
          subst hm
          rw [Int.toNat_natCast]
          exact fmtP m (by omega)
        rcases hi with rfl | rfl | rfl
        · simp (maxSteps := 2000000) -implicitDefEqProofs +contextual (disch := first | assumption | omega | decide +kernel) only [push_cast, ↓capI, br2_true, br2_false, frk_tt, frk_tf, frk_f, frkD_tt, frkD_tf, frkD_f, pk2_true, pk2_false, imp_true, seval, Nat.reduceLeDiff, Nat.reduceEqDiff, reduceCtorEq, ↓reduceIte, cfg0, encE, agE, rn_map, rn_enc, getV_map, List.length_map, qn, setPs, rnOs, Ob.rn, rns, V.rn, List.set_cons_zero, Nat.mul_one, vIt]
          refine callO.pc (h38 _ rfl) ?_
          simp (maxSteps := 2000000) -implicitDefEqProofs +contextual (disch := first | assumption | omega | decide +kernel) only [push_cast, ↓capI, br2_true, br2_false, frk_tt, frk_tf, frk_f, frkD_tt, frkD_tf, frkD_f, pk2_true, pk2_false, imp_true, seval, Nat.reduceLeDiff, Nat.reduceEqDiff, reduceCtorEq, ↓reduceIte, cfg0, encE, agE, rn_map, rn_enc, getV_map, List.length_map, qn, setPs, rnOs, Ob.rn, rns, V.rn, List.set_cons_zero, Nat.mul_one]
          refine ⟨(j + 1, ver + 1), hlt2, by simp only; omega, ?_⟩
          exact Gn.canon (J := []) (by simp [hst, vWd, wd, encE, fld]) (by simp [wk]) (by simp) (by simp [bel_agE, bel_slM, bel_wds, bel_wdt]) (by simp [bel_agE, bel_slM, bel_wds, bel_wdt, encE])
        · simp (maxSteps := 2000000) -implicitDefEqProofs +contextual (disch := first | assumption | omega | decide +kernel) only [push_cast, ↓capI, br2_true, br2_false, frk_tt, frk_tf, frk_f, frkD_tt, frkD_tf, frkD_f, pk2_true, pk2_false, imp_true, seval, Nat.reduceLeDiff, Nat.reduceEqDiff, reduceCtorEq, ↓reduceIte, cfg0, encE, agE, rn_map, rn_enc, getV_map, List.length_map, qn, setPs, rnOs, Ob.rn, rns, V.rn, List.set_cons_zero, Nat.mul_one, vIt]
          refine callO.pc (h38 _ rfl) ?_
          simp (maxSteps := 2000000) -implicitDefEqProofs +contextual (disch := first | assumption | omega | decide +kernel) only [push_cast, ↓capI, br2_true, br2_false, frk_tt, frk_tf, frk_f, frkD_tt, frkD_tf, frkD_f, pk2_true, pk2_false, imp_true, seval, Nat.reduceLeDiff, Nat.reduceEqDiff, reduceCtorEq, ↓reduceIte, cfg0, encE, agE, rn_map, rn_enc, getV_map, List.length_map, qn, setPs, rnOs, Ob.rn, rns, V.rn, List.set_cons_zero, Nat.mul_one]
          refine ⟨(j + 1, ver + 1), hlt2, by simp only; omega, ?_⟩
          exact Gn.canon (J := []) (by simp [hst, vWd, wd, encE, fld]) (by simp [wk]) (by simp) (by simp [bel_agE, bel_slM, bel_wds, bel_wdt]) (by simp [bel_agE, bel_slM, bel_wds, bel_wdt, encE])
        · simp (maxSteps := 2000000) -implicitDefEqProofs +contextual (disch := first | assumption | omega | decide +kernel) only [push_cast, ↓capI, br2_true, br2_false, frk_tt, frk_tf, frk_f, frkD_tt, frkD_tf, frkD_f, pk2_true, pk2_false, imp_true, seval, Nat.reduceLeDiff, Nat.reduceEqDiff, reduceCtorEq, ↓reduceIte, cfg0, encE, agE, rn_map, rn_enc, getV_map, List.length_map, qn, setPs, rnOs, Ob.rn, rns, V.rn, List.set_cons_zero, Nat.mul_one, vIt]
          refine callO.pc (h38 _ rfl) ?_
          simp (maxSteps := 2000000) -implicitDefEqProofs +contextual (disch := first | assumption | omega | decide +kernel) only [push_cast, ↓capI, br2_true, br2_false, frk_tt, frk_tf, frk_f, frkD_tt, frkD_tf, frkD_f, pk2_true, pk2_false, imp_true, seval, Nat.reduceLeDiff, Nat.reduceEqDiff, reduceCtorEq, ↓reduceIte, cfg0, encE, agE, rn_map, rn_enc, getV_map, List.length_map, qn, setPs, rnOs, Ob.rn, rns, V.rn, List.set_cons_zero, Nat.mul_one]
          refine ⟨(j + 1, ver + 1), hlt2, by simp only; omega, ?_⟩
          exact Gn.canon (J := []) (by simp [hst, vWd, wd, encE, fld]) (by simp [wk]) (by simp) (by simp [bel_agE, bel_slM, bel_wds, bel_wdt]) (by simp [bel_agE, bel_slM, bel_wds, bel_wdt, encE])
    · obtain rfl : j = (pat e).length := by omega
      have hln := line_len e
      have h39 := pc46 ((pat e).map (wd e)) (by rw [List.length_map]; omega) (by unfold lineE at hln; omega)
      rw [List.length_map, List.map_map] at h39
      have htk : ∀ f : It → V, List.take (pat e).length (List.map f (pat e)) = List.map f (pat e) := fun f => List.take_of_length_le (by simp)
      refine callO.lent (J := []) (by simp [brws, brw, getO, htk]; exact h39.toJ rfl) (by simp [brws, brw, getO, htk, bel_agE, bel_slM, bel_wds, bel_wdt]) rfl rfl ?_
      simp (maxSteps := 2000000) -implicitDefEqProofs +contextual (disch := first | assumption | omega | decide +kernel) only [push_cast, ↓capI, br2_true, br2_false, frk_tt, frk_tf, frk_f, frkD_tt, frkD_tf, frkD_f, pk2_true, pk2_false, imp_true, seval, Nat.reduceLeDiff, Nat.reduceEqDiff, reduceCtorEq, ↓reduceIte, cfg0, encE, agE, rn_map, rn_enc, getV_map, List.length_map, qn, setPs, rnOs, Ob.rn, rns, V.rn, List.set_cons_zero, Nat.mul_one, V.sh, shs, shOs]
      refine endK.ret ?_ (by first | rfl | simp [bel_agE, bel_slM, bel_wds, bel_wdt]); simp [evRes, getT, retV, Tryz.f24,  lineE]
/-- Format of the program -/
theorem fmtEv (l : List Ev) (hl : l.length ≤ 400) : PC Tryz.prog 11 [slE l] (.tup [.str (fmtE l).1, .int .i64 (fmtE l).2]) :=
  pc11 l hl (fun e _ => pc22 e) (fun e _ h => pc24 e h)
end Go.Proofs.YtafongdfnpnneaaGreatDoor

/- Chapter 53: strings.Cut at a separator of one byte. -/
set_option maxRecDepth 100000
set_option maxHeartbeats 4000000
set_option linter.all false
namespace Go.Proofs.YtafongdfnpnneaaGreatDoor
open Go.Vm

/-- a text cut at the first c -/
def cutC (c : UInt8) : List UInt8 → List UInt8 × List UInt8 × Bool
  | [] => ([], [], false)
  | x :: s => if x = c then ([], s, true) else (x :: (cutC c s).1, (cutC c s).2.1, (cutC c s).2.2)
def encCut (r : List UInt8 × List UInt8 × Bool) : V := .tup [.str r.1, .str r.2.1, .bool r.2.2]
theorem bel_cut {n : Nat} {r : List UInt8 × List UInt8 × Bool} : (encCut r).bel n = true := rfl
theorem cut_no {c : UInt8} : ∀ {s : List UInt8} {i : Nat}, (cutC c s).2.2 = false → idxGo c.toNat s i = -1 ∧ (cutC c s).1 = s ∧ (cutC c s).2.1 = []
  | [], i, _ => ⟨rfl, rfl, rfl⟩
  | x :: s, i, h => by
    rw [cutC] at h ⊢
    by_cases hx : x = c
    · rw [if_pos hx] at h; cases h
    · rw [if_neg hx] at h ⊢
      obtain ⟨h1, h2, h3⟩ := cut_no (s := s) (i := i + 1) h
      have hn : ¬ (x.toNat : Int) = c.toNat := fun e => hx (UInt8.toNat_inj.1 (by omega))
      exact ⟨by rw [idxGo, if_neg hn]; exact h1, by simp only [h2], h3⟩
theorem cut_yes {c : UInt8} : ∀ {s : List UInt8} {i : Nat}, (cutC c s).2.2 = true → idxGo c.toNat s i = i + ((cutC c s).1.length : Int) ∧ s = (cutC c s).1 ++ c :: (cutC c s).2.1
  | [], i, h => by cases h
  | x :: s, i, h => by
    rw [cutC] at h ⊢
    by_cases hx : x = c
    · subst hx
      rw [if_pos rfl, idxGo, if_pos rfl]
      exact ⟨by simp, rfl⟩
    · rw [if_neg hx] at h ⊢
      obtain ⟨h1, h2⟩ := cut_yes (s := s) (i := i + 1) h
      have hn : ¬ (x.toNat : Int) = c.toNat := fun e => hx (UInt8.toNat_inj.1 (by omega))
      refine ⟨by rw [idxGo, if_neg hn, h1]; simp only [List.length_cons]; omega, ?_⟩
      simp only [List.cons_append]
      rw [← h2]
theorem getD1 {c : UInt8} : ([c] : List UInt8).getD 0 0 = c := rfl
theorem pc58 (s : List UInt8) (c : UInt8) : PC Tryz.prog 58 [.str s, .str [c]] (.int .i64 (idxB s c.toNat)) := by
  have hc : (0 : Int) ≤ c.toNat ∧ (c.toNat : Int) ≤ 255 := by have := c.toNat_lt; omega
  by_cases he : [c] = s
  · subst he
    have hi : idxB [c] c.toNat = 0 := by rw [idxB, idxGo, if_pos rfl]; rfl
    rw [hi]
    refine PC.walk tok mixed cfg0 Tryz.func58 rfl Tryz.call58 (by simp [bel_cut]) (by first | rfl | simp [bel_cut]) ?_; simp (maxSteps := 2000000) -implicitDefEqProofs +contextual (disch := first | assumption | omega | decide +kernel) only [push_cast, ↓capI, br2_true, br2_false, frk_tt, frk_tf, frk_f, frkD_tt, frkD_tf, frkD_f, pk2_true, pk2_false, imp_true, seval, Nat.reduceLeDiff, Nat.reduceEqDiff, reduceCtorEq, ↓reduceIte, cfg0, take_rest, ibeq_dec, getD1, Tryz.ntmps58]
    refine endK.ret ?_ (by first | rfl | simp [bel_cut]); simp [evRes, getT, retV, Tryz.f58]
  · refine PC.walk tok mixed cfg0 Tryz.func58 rfl Tryz.call58 (by simp [bel_cut]) (by first | rfl | simp [bel_cut]) ?_; simp (maxSteps := 2000000) -implicitDefEqProofs +contextual (disch := first | assumption | omega | decide +kernel) only [push_cast, ↓capI, br2_true, br2_false, frk_tt, frk_tf, frk_f, frkD_tt, frkD_tf, frkD_f, pk2_true, pk2_false, imp_true, seval, Nat.reduceLeDiff, Nat.reduceEqDiff, reduceCtorEq, ↓reduceIte, cfg0, take_rest, ibeq_dec, getD1, Tryz.ntmps58]
    refine callO.pc (pc65 s c.toNat hc) ?_
    simp (maxSteps := 2000000) -implicitDefEqProofs +contextual (disch := first | assumption | omega | decide +kernel) only [push_cast, ↓capI, br2_true, br2_false, frk_tt, frk_tf, frk_f, frkD_tt, frkD_tf, frkD_f, pk2_true, pk2_false, imp_true, seval, Nat.reduceLeDiff, Nat.reduceEqDiff, reduceCtorEq, ↓reduceIte, cfg0, take_rest, ibeq_dec, getD1]
    refine endK.ret ?_ (by first | rfl | simp [bel_cut]); simp [evRes, getT, retV, Tryz.f58]
theorem pc47 (s : List UInt8) (c : UInt8) (hs : s.length ≤ 4000000000) : PC Tryz.prog 47 [.str s, .str [c]] (encCut (cutC c s)) := by
  have h57 := pc58 s c
  unfold idxB at h57
  cases h : (cutC c s).2.2
  · obtain ⟨h1, h2, h3⟩ := cut_no (i := 0) h
    rw [h1] at h57
    refine PC.walk tok mixed cfg0 Tryz.func47 rfl Tryz.call47 (by simp [bel_cut]) (by first | rfl | simp [bel_cut]) ?_; simp (maxSteps := 2000000) -implicitDefEqProofs +contextual (disch := first | assumption | omega | decide +kernel) only [push_cast, ↓capI, br2_true, br2_false, frk_tt, frk_tf, frk_f, frkD_tt, frkD_tf, frkD_f, pk2_true, pk2_false, imp_true, seval, Nat.reduceLeDiff, Nat.reduceEqDiff, reduceCtorEq, ↓reduceIte, cfg0, take_rest, ibeq_dec, getD1, Tryz.ntmps47]
    refine callO.pc h57 ?_
    simp (maxSteps := 2000000) -implicitDefEqProofs +contextual (disch := first | assumption | omega | decide +kernel) only [push_cast, ↓capI, br2_true, br2_false, frk_tt, frk_tf, frk_f, frkD_tt, frkD_tf, frkD_f, pk2_true, pk2_false, imp_true, seval, Nat.reduceLeDiff, Nat.reduceEqDiff, reduceCtorEq, ↓reduceIte, cfg0, take_rest, ibeq_dec, getD1]
    refine endK.ret ?_ (by first | rfl | simp [bel_cut]); simp [evRes, getT, retV, Tryz.f47,  encCut, h, h2, h3]
  · obtain ⟨h1, h2⟩ := cut_yes (i := 0) h
    rw [h1] at h57
    generalize hr : cutC c s = r at h57 h h2 ⊢
    obtain ⟨a, b, f⟩ := r
    simp only at h h2 h57 ⊢
    subst h
    subst h2
    have hl : (a ++ c :: b).length = a.length + b.length + 1 := by simp; omega
    have e0 : ((0 : Nat) : Int) + (a.length : Int) = (a.length : Int) := by omega
    rw [e0] at h57
    refine PC.walk tok mixed cfg0 Tryz.func47 rfl Tryz.call47 (by simp [bel_cut]) (by first | rfl | simp [bel_cut]) ?_; simp (maxSteps := 2000000) -implicitDefEqProofs +contextual (disch := first | assumption | omega | decide +kernel) only [push_cast, ↓capI, br2_true, br2_false, frk_tt, frk_tf, frk_f, frkD_tt, frkD_tf, frkD_f, pk2_true, pk2_false, imp_true, seval, Nat.reduceLeDiff, Nat.reduceEqDiff, reduceCtorEq, ↓reduceIte, cfg0, take_rest, ibeq_dec, getD1, Tryz.ntmps47]
    refine callO.pc h57 ?_
    simp (maxSteps := 2000000) -implicitDefEqProofs +contextual (disch := first | assumption | omega | decide +kernel) only [push_cast, ↓capI, br2_true, br2_false, frk_tt, frk_tf, frk_f, frkD_tt, frkD_tf, frkD_f, pk2_true, pk2_false, imp_true, seval, Nat.reduceLeDiff, Nat.reduceEqDiff, reduceCtorEq, ↓reduceIte, cfg0, take_rest, ibeq_dec, getD1, hl]
    have q1 : ((a.length : Int) + (b.length : Int) + 1).toNat - ((a.length : Int) + 1).toNat = b.length := by omega
    have q2 : ((a.length : Int) + 1).toNat = a.length + 1 := by omega
    have q3 : (a ++ c :: b).drop (a.length + 1) = b := by
      have : a ++ c :: b = (a ++ [c]) ++ b := by simp
      rw [this, List.drop_left' (by simp)]
    have q4 : (a ++ c :: b).take (a.length - 0) = a := by simp
    rw [q1, q2, q3, q4]
    refine endK.ret ?_ (by first | rfl | simp [bel_cut]); simp [evRes, getT, retV, Tryz.f47,  encCut]
theorem pc28 (s : List UInt8) (c : UInt8) (hs : s.length ≤ 4000000000) : PC Tryz.prog 28 [.str s, .str [c]] (encCut (cutC c s)) := by
  refine PC.walk tok mixed cfg0 Tryz.func28 rfl Tryz.call28 (by simp [bel_cut]) (by first | rfl | simp [bel_cut]) ?_; simp (maxSteps := 2000000) -implicitDefEqProofs +contextual (disch := first | assumption | omega | decide +kernel) only [push_cast, ↓capI, br2_true, br2_false, frk_tt, frk_tf, frk_f, frkD_tt, frkD_tf, frkD_f, pk2_true, pk2_false, imp_true, seval, Nat.reduceLeDiff, Nat.reduceEqDiff, reduceCtorEq, ↓reduceIte, cfg0, take_rest, ibeq_dec, getD1, Tryz.ntmps28]
  refine callO.pc (pc47 s c hs) ?_
  simp (maxSteps := 2000000) -implicitDefEqProofs +contextual (disch := first | assumption | omega | decide +kernel) only [push_cast, ↓capI, br2_true, br2_false, frk_tt, frk_tf, frk_f, frkD_tt, frkD_tf, frkD_f, pk2_true, pk2_false, imp_true, seval, Nat.reduceLeDiff, Nat.reduceEqDiff, reduceCtorEq, ↓reduceIte, cfg0, take_rest, ibeq_dec, getD1, encCut]
  refine endK.ret ?_ (by first | rfl | simp [bel_cut]); simp [evRes, getT, retV, Tryz.f28,  encCut]
end Go.Proofs.YtafongdfnpnneaaGreatDoor

/- Chapter 53: strings.Split at spaces. -/
set_option maxRecDepth 100000
set_option maxHeartbeats 4000000
set_option linter.all false
namespace Go.Proofs.YtafongdfnpnneaaGreatDoor
open Go.Vm

/-- the row while it is filled -/
def rowS (ws : List (List UInt8)) (k : Nat) : List V := ws.map V.str ++ List.replicate k (.str [])
theorem bel_row {n k : Nat} (ws : List (List UInt8)) : belAll n (rowS ws k) = true := by
  rw [rowS, belAll_append, belAll_map (fun _ => rfl) ws, Bool.true_and]
  refine belAll_iff.2 fun x hx => ?_
  rw [List.eq_of_mem_replicate hx]
  rfl
theorem len_row {k : Nat} (ws : List (List UInt8)) : (rowS ws k).length = ws.length + k := by simp [rowS]
theorem put_row {k : Nat} (w : List UInt8) : ∀ (ws : List (List UInt8)), putV (rowS ws (k + 1)) ws.length [.str w] = rowS (ws ++ [w]) k
  | [] => by simp [rowS, List.replicate_succ, putV]
  | x :: ws => by
    have := put_row (k := k) w ws
    simp only [rowS, List.map_cons, List.cons_append, List.length_cons, putV] at this ⊢
    rw [this]
theorem bel_strs {n : Nat} (ws : List (List UInt8)) : belAll n (ws.map V.str) = true := belAll_map (fun _ => rfl) ws
theorem x94 (s : List UInt8) (c : UInt8) : XCall Tryz.prog 91 [.str s, .int .u8 c.toNat] (.int .i64 (s.count c)) := by
  intro own w β vals h
  match vals, h with
  | [a, b], h =>
    simp only [VRs, VR, and_true] at h
    obtain ⟨rfl, rfl⟩ := h
    refine ⟨.int .i64 (s.count c), ?_, by simp only [VR]⟩
    rw [run_callFunc_extern (fn := Tryz.f91) (e := Extern.BytealgCount.count) Tryz.func91 (by kernel_rfl) (by kernel_rfl) (by kernel_rfl) (by rfl)]
    rw [Lib.run_countString]
    have : (c.toNat : Int).toNat.toUInt8 = c := by simp
    simp [Lib.countByte, this]
  | [], h => simp [VRs] at h
  | [_], h => simp [VRs] at h
  | _ :: _ :: _ :: _, h => simp [VRs] at h
theorem pc80 (s : List UInt8) (c : UInt8) : PC Tryz.prog 80 [.str s, .str [c]] (.int .i64 (s.count c)) := by
  refine PC.walk tok mixed cfg0 Tryz.func80 rfl Tryz.call80 (by simp [bel_cut, bel_row, bel_strs]) (by first | rfl | simp [bel_cut, bel_row, bel_strs]) ?_; simp (maxSteps := 2000000) -implicitDefEqProofs +contextual (disch := first | assumption | omega | decide +kernel) only [push_cast, ↓capI, br2_true, br2_false, frk_tt, frk_tf, frk_f, frkD_tt, frkD_tf, frkD_f, pk2_true, pk2_false, imp_true, seval, Nat.reduceLeDiff, Nat.reduceEqDiff, reduceCtorEq, ↓reduceIte, cfg0, take_rest, ibeq_dec, getD1, Tryz.ntmps80]
  refine callO.ext (x94 s c) ?_
  simp (maxSteps := 2000000) -implicitDefEqProofs +contextual (disch := first | assumption | omega | decide +kernel) only [push_cast, ↓capI, br2_true, br2_false, frk_tt, frk_tf, frk_f, frkD_tt, frkD_tf, frkD_f, pk2_true, pk2_false, imp_true, seval, Nat.reduceLeDiff, Nat.reduceEqDiff, reduceCtorEq, ↓reduceIte, cfg0, take_rest, ibeq_dec, getD1]
  refine endK.ret ?_ (by first | rfl | simp [bel_cut, bel_row, bel_strs]); simp [evRes, getT, retV, Tryz.f80]
theorem pc81 (s : List UInt8) (c : UInt8) : PC Tryz.prog 81 [.str s, .str [c]] (.int .i64 (idxB s c.toNat)) := by
  refine PC.walk tok mixed cfg0 Tryz.func81 rfl Tryz.call81 (by simp [bel_cut, bel_row, bel_strs]) (by first | rfl | simp [bel_cut, bel_row, bel_strs]) ?_; simp (maxSteps := 2000000) -implicitDefEqProofs +contextual (disch := first | assumption | omega | decide +kernel) only [push_cast, ↓capI, br2_true, br2_false, frk_tt, frk_tf, frk_f, frkD_tt, frkD_tf, frkD_f, pk2_true, pk2_false, imp_true, seval, Nat.reduceLeDiff, Nat.reduceEqDiff, reduceCtorEq, ↓reduceIte, cfg0, take_rest, ibeq_dec, getD1, Tryz.ntmps81]
  refine callO.pc (pc58 s c) ?_
  simp (maxSteps := 2000000) -implicitDefEqProofs +contextual (disch := first | assumption | omega | decide +kernel) only [push_cast, ↓capI, br2_true, br2_false, frk_tt, frk_tf, frk_f, frkD_tt, frkD_tf, frkD_f, pk2_true, pk2_false, imp_true, seval, Nat.reduceLeDiff, Nat.reduceEqDiff, reduceCtorEq, ↓reduceIte, cfg0, take_rest, ibeq_dec, getD1]
  refine endK.ret ?_ (by first | rfl | simp [bel_cut, bel_row, bel_strs]); simp [evRes, getT, retV, Tryz.f81]
theorem spl_count : ∀ s, (spl s).length = s.count 32 + 1
  | [] => rfl
  | c :: s => by
    have ih := spl_count s
    rw [spl]
    by_cases h : c = 32
    · subst h
      rw [if_pos rfl, List.length_cons, ih, List.count_cons_self]
    · rw [if_neg h, List.count_cons_of_ne (fun e => h (by first | exact e | exact e.symm))]
      cases hs : spl s with
      | nil => exact absurd hs (spl_ne s)
      | cons w ws => rw [hs] at ih; simpa using ih
theorem spl_cut : ∀ s, spl s = if (cutC 32 s).2.2 = true then (cutC 32 s).1 :: spl (cutC 32 s).2.1 else [s]
  | [] => rfl
  | c :: s => by
    have ih := spl_cut s
    rw [spl, cutC]
    by_cases h : c = 32
    · rw [if_pos h, if_pos h]; rfl
    · rw [if_neg h, if_neg h]
      cases hb : (cutC 32 s).2.2
      · rw [hb, if_neg (by simp)] at ih
        rw [ih]
        simp
      · rw [hb, if_pos rfl] at ih
        rw [ih]
        simp
theorem cut_count : ∀ s : List UInt8, ((cutC 32 s).2.2 = false → s.count 32 = 0) ∧ ((cutC 32 s).2.2 = true → s.count 32 = (cutC 32 s).2.1.count 32 + 1)
  | [] => ⟨fun _ => rfl, fun h => by cases h⟩
  | c :: s => by
    have ih := cut_count s
    rw [cutC]
    by_cases h : c = 32
    · subst h
      rw [if_pos rfl, List.count_cons_self]
      exact ⟨(fun h => by cases h), fun _ => rfl⟩
    · rw [if_neg h, List.count_cons_of_ne (fun e => h (by first | exact e | exact e.symm))]
      exact ih
theorem pc69 (s : List UInt8) (hs : s.length ≤ 20000) : PC Tryz.prog 69 [.str s, .str [32], .int .i64 0, .int .i64 (-1)] (.sl false ((spl s).map V.str) (spl s).length) := by
  have hc := spl_count s
  have hcl : s.count 32 ≤ s.length := List.count_le_length
  have h82 := pc80 s 32
  generalize hN : s.count 32 = N at hc hcl h82
  have hmin : ¬ (s.length : Int) + 1 < (N : Int) + 1 := by omega
  have hT : ((N : Int) + 1).toNat = N + 1 := by omega
  refine PC.walk tok mixed cfg0 Tryz.func69 rfl Tryz.call69 (by simp [bel_cut, bel_row, bel_strs]) (by first | rfl | simp [bel_cut, bel_row, bel_strs]) ?_; simp (maxSteps := 2000000) -implicitDefEqProofs +contextual (disch := first | assumption | omega | decide +kernel) only [push_cast, ↓capI, br2_true, br2_false, frk_tt, frk_tf, frk_f, frkD_tt, frkD_tf, frkD_f, pk2_true, pk2_false, imp_true, seval, Nat.reduceLeDiff, Nat.reduceEqDiff, reduceCtorEq, ↓reduceIte, cfg0, take_rest, ibeq_dec, getD1, Tryz.ntmps69]
  refine callO.pc h82 ?_
  simp (maxSteps := 2000000) -implicitDefEqProofs +contextual (disch := first | assumption | omega | decide +kernel) only [push_cast, ↓capI, br2_true, br2_false, frk_tt, frk_tf, frk_f, frkD_tt, frkD_tf, frkD_f, pk2_true, pk2_false, imp_true, seval, Nat.reduceLeDiff, Nat.reduceEqDiff, reduceCtorEq, ↓reduceIte, cfg0, take_rest, ibeq_dec, getD1, hmin, hT, Int.add_sub_cancel]
  refine T.lp tok mixed cfg0 (fun ((i, r, ws) : Nat × List UInt8 × List (List UInt8)) => sv (.str r) (kp 3 (dd 5 (kp 1 (sv (.int .i64 i) (dd 55 (nl))))))) (fun H0 ((i, r, ws) : Nat × List UInt8 × List (List UInt8)) => [.cells 0 (rowS ws (N + 1 - i))]) (fun ((i, r, ws) : Nat × List UInt8 × List (List UInt8)) => ws.length = i ∧ ws ++ spl r = spl s ∧ i + r.count 32 = N ∧ r.length ≤ 20000) (fun ((i, r, ws) : Nat × List UInt8 × List (List UInt8)) => N - i) ((0, s, [])) ?_ ?_ ?_
  · exact ⟨rfl, rfl, by omega, hs⟩
  · exact Gn.canon (J := []) (by first | rfl | (simp [List.append_nil]; done) | (simp [List.append_nil]; rfl)) (by simp [wk, putT, kp, dd, sv, nl]) (by simp [List.length_append]) (by simp [bel_cut, bel_row, bel_strs, kp, dd, sv, nl]) (by simp [bel_cut, bel_row, bel_strs])
  rintro ⟨i, r, ws⟩ ⟨hw, hsp, hcn, hr⟩
  (try simp only at hw hsp hcn hr)
  have hiN : i ≤ N := by omega
  simp (maxSteps := 2000000) -implicitDefEqProofs +contextual (disch := first | assumption | omega | decide +kernel) only [push_cast, ↓capI, br2_true, br2_false, frk_tt, frk_tf, frk_f, frkD_tt, frkD_tf, frkD_f, pk2_true, pk2_false, imp_true, seval, Nat.reduceLeDiff, Nat.reduceEqDiff, reduceCtorEq, ↓reduceIte, cfg0, take_rest, ibeq_dec, getD1]
  refine ⟨fun hlt => ?_, fun hge => ?_⟩
  · have hf : (cutC 32 r).2.2 = true := by
      cases h : (cutC 32 r).2.2
      · have := (cut_count r).1 h; omega
      · rfl
    have h83 := pc81 r 32
    have hcnt := (cut_count r).2 hf
    have hcut := spl_cut r
    rw [if_pos hf] at hcut
    obtain ⟨h1, h2⟩ := cut_yes (c := 32) (i := 0) hf
    unfold idxB at h83
    rw [h1] at h83
    generalize cutC 32 r = q at h83 h2 hcut hcnt
    obtain ⟨a, b, f⟩ := q
    simp only at h83 h2 hcut hcnt
    have e0 : ((0 : Nat) : Int) + (a.length : Int) = (a.length : Int) := by omega
    rw [e0] at h83
    have hrl : r.length = a.length + b.length + 1 := by rw [h2]; simp; omega
    have q1 : (r.length : Int).toNat - ((a.length : Int) + 1).toNat = b.length := by omega
    have q2 : ((a.length : Int) + 1).toNat = a.length + 1 := by omega
    have q3 : r.drop (a.length + 1) = b := by
      have : a ++ 32 :: b = (a ++ [32]) ++ b := by simp
      rw [h2, this, List.drop_left' (by simp)]
    have q4 : r.take a.length = a := by rw [h2]; simp
    have q5 : b.take (r.length - (a.length + 1)) = b := List.take_of_length_le (by omega)
    have ek : N + 1 - i = (N - i) + 1 := by omega
    have hal : a.length ≤ 20000 := by omega
    subst hw
    refine callO.pc h83 ?_
    have q6 : List.take (((a.length : Int) + (b.length : Int) + 1).toNat - (a.length + 1)) b = b := List.take_of_length_le (by omega)
    simp (maxSteps := 2000000) -implicitDefEqProofs +contextual (disch := first | assumption | omega | decide +kernel) only [push_cast, ↓capI, br2_true, br2_false, frk_tt, frk_tf, frk_f, frkD_tt, frkD_tf, frkD_f, pk2_true, pk2_false, imp_true, seval, Nat.reduceLeDiff, Nat.reduceEqDiff, reduceCtorEq, ↓reduceIte, cfg0, take_rest, ibeq_dec, getD1, hrl, q2, q3, q4, q6, ek, put_row, len_row, Int.add_zero, Nat.sub_zero, Nat.mul_one]
    refine ⟨(ws.length + 1, b, ws ++ [a]), ⟨by simp, by rw [List.append_assoc, ← hsp, hcut]; rfl, by simp only; omega, by simp only; omega⟩, by (try simp only); omega, ?_⟩; exact Gn.canon (by first | rfl | (simp [List.append_nil, Nat.add_sub_add_right]; rfl)) (by simp [wk, Nat.add_sub_add_right]) (by simp [List.length_append]) (by simp [bel_cut, bel_row, bel_strs]) (by simp [bel_cut, bel_row, bel_strs])
  · have hiN2 : i = N := by omega
    subst hiN2
    have hc0 : r.count 32 = 0 := by omega
    have hf : (cutC 32 r).2.2 = false := by
      cases h : (cutC 32 r).2.2
      · rfl
      · have := (cut_count r).2 h; omega
    have hcut := spl_cut r
    rw [hf, if_neg (by simp)] at hcut
    rw [hcut] at hsp
    rw [← hsp]
    subst hw
    have ek : ws.length + 1 - ws.length = 0 + 1 := by omega
    simp (maxSteps := 2000000) -implicitDefEqProofs +contextual (disch := first | assumption | omega | decide +kernel) only [push_cast, ↓capI, br2_true, br2_false, frk_tt, frk_tf, frk_f, frkD_tt, frkD_tf, frkD_f, pk2_true, pk2_false, imp_true, seval, Nat.reduceLeDiff, Nat.reduceEqDiff, reduceCtorEq, ↓reduceIte, cfg0, take_rest, ibeq_dec, getD1, ek, put_row, len_row, Nat.mul_one]
    have e1 : ((ws.length : Int) + 1).toNat - 0 = ws.length + 1 := by omega
    rw [e1]
    have hre : rowS (ws ++ [r]) 0 = (ws ++ [r]).map V.str := by simp [rowS]
    rw [hre]
    refine endK.gn (Gn.freeze (id := 0) rfl) ?_
    have hlen : (ws ++ [r]).length = ws.length + 1 := by simp
    have htk : List.take (ws.length + 1) ((ws ++ [r]).map V.str) = (ws ++ [r]).map V.str := List.take_of_length_le (by rw [List.length_map, hlen]; exact Nat.le_refl _)
    rw [← hlen] at htk ⊢
    generalize ws ++ [r] = L at htk ⊢
    refine endK.ret ?_ (by simp [bel_cut, bel_row, bel_strs])
    simp [evRes, getT, retV, Tryz.f69, fzs, fz, Nat.beq, htk]
theorem pc59 (s : List UInt8) (hs : s.length ≤ 20000) : PC Tryz.prog 59 [.str s, .str [32]] (.sl false ((spl s).map V.str) (spl s).length) := by
  refine PC.walk tok mixed cfg0 Tryz.func59 rfl Tryz.call59 (by simp [bel_cut, bel_row, bel_strs]) (by first | rfl | simp [bel_cut, bel_row, bel_strs]) ?_; simp (maxSteps := 2000000) -implicitDefEqProofs +contextual (disch := first | assumption | omega | decide +kernel) only [push_cast, ↓capI, br2_true, br2_false, frk_tt, frk_tf, frk_f, frkD_tt, frkD_tf, frkD_f, pk2_true, pk2_false, imp_true, seval, Nat.reduceLeDiff, Nat.reduceEqDiff, reduceCtorEq, ↓reduceIte, cfg0, take_rest, ibeq_dec, getD1, Tryz.ntmps59]
  refine callO.pc (pc69 s hs) ?_
  simp (maxSteps := 2000000) -implicitDefEqProofs +contextual (disch := first | assumption | omega | decide +kernel) only [push_cast, ↓capI, br2_true, br2_false, frk_tt, frk_tf, frk_f, frkD_tt, frkD_tf, frkD_f, pk2_true, pk2_false, imp_true, seval, Nat.reduceLeDiff, Nat.reduceEqDiff, reduceCtorEq, ↓reduceIte, cfg0, take_rest, ibeq_dec, getD1]
  refine endK.ret ?_ (by first | rfl | simp [bel_cut, bel_row, bel_strs]); simp [evRes, getT, retV, Tryz.f59]
end Go.Proofs.YtafongdfnpnneaaGreatDoor

/- Chapter 53: the items of a line, by the program. -/
set_option maxRecDepth 100000
set_option maxHeartbeats 4000000
set_option linter.all false
namespace Go.Proofs.YtafongdfnpnneaaGreatDoor
open Go.Vm

/-- what the program makes of a word -/
def itV (w : List UInt8) : V := if (parseI w).2 = true ∧ 0 ≤ (parseI w).1 then .ifc 3 (.int .i64 (parseI w).1) else .ifc 9 (.str w)
theorem bel_itV {n : Nat} (ws : List (List UInt8)) : belAll n (ws.map itV) = true := belAll_map (fun w => by unfold itV; split <;> rfl) ws
theorem bel_itT {n k : Nat} (ws : List (List UInt8)) : belAll n ((ws.map itV).take k) = true := by rw [← List.map_take]; exact bel_itV _
theorem map_stepG {α : Type} {f : α → V} {l : List α} {j : Nat} (h : j < l.length) : (l.take (j + 1)).map f = (l.take j).map f ++ [f l[j]] := by
  rw [List.take_add_one, List.getElem?_eq_getElem h, List.map_append]; rfl
theorem spl_le : ∀ {s w : List UInt8}, w ∈ spl s → w.length ≤ s.length
  | [], w, h => by simp [spl] at h; subst h; exact Nat.le_refl _
  | c :: s, w, h => by
    rw [spl] at h
    split at h
    · rcases List.mem_cons.1 h with rfl | h
      · exact Nat.zero_le _
      · exact Nat.le_trans (spl_le h) (by simp)
    · cases hs : spl s with
      | nil => exact absurd hs (spl_ne s)
      | cons v vs =>
        rw [hs] at h
        have ih : ∀ u, u ∈ v :: vs → u.length ≤ s.length := fun u hu => spl_le (hs ▸ hu)
        rcases List.mem_cons.1 h with rfl | h
        · have := ih v (List.mem_cons_self ..)
          simp only [List.length_cons]; omega
        · exact Nat.le_trans (ih w (List.mem_cons_of_mem _ h)) (by simp)
theorem pc48 (s : List UInt8) (hs : s.length ≤ 20000) : PC Tryz.prog 48 [.str s] (.sl false ((spl s).map itV) (spl s).length) := by
  have hle : ∀ w ∈ spl s, w.length ≤ s.length := fun w hw => spl_le hw
  have hln : (spl s).length ≤ 20001 := by
    have := spl_count s
    have : s.count 32 ≤ s.length := List.count_le_length
    omega
  have h58 := pc59 s hs
  generalize spl s = L at h58 hle hln ⊢
  refine PC.walk tok mixed cfg0 Tryz.func48 rfl Tryz.call48 (by simp [bel_strs, bel_itV, bel_itT]) (by first | rfl | simp [bel_strs, bel_itV, bel_itT]) ?_; simp (maxSteps := 2000000) -implicitDefEqProofs +contextual (disch := first | assumption | omega | decide +kernel) only [push_cast, ↓capI, br2_true, br2_false, frk_tt, frk_tf, frk_f, frkD_tt, frkD_tf, frkD_f, pk2_true, pk2_false, imp_true, seval, Nat.reduceLeDiff, Nat.reduceEqDiff, reduceCtorEq, ↓reduceIte, cfg0, getV_map, List.length_map, Nat.mul_one, Tryz.ntmps48]
  refine callO.pc h58 ?_
  simp (maxSteps := 2000000) -implicitDefEqProofs +contextual (disch := first | assumption | omega | decide +kernel) only [push_cast, ↓capI, br2_true, br2_false, frk_tt, frk_tf, frk_f, frkD_tt, frkD_tf, frkD_f, pk2_true, pk2_false, imp_true, seval, Nat.reduceLeDiff, Nat.reduceEqDiff, reduceCtorEq, ↓reduceIte, cfg0, getV_map, List.length_map, Nat.mul_one]
  refine T.lp tok mixed cfg0 (fun ((j, ver) : Nat × Nat) => dd 3 (sv (.buf 0 ver 0 j 1) (dd 5 (kp 2 (sv (.int .i64 j) (dd 25 (nl))))))) (fun H0 ((j, ver) : Nat × Nat) => [.cells ver ((L.take j).map itV)]) (fun ((j, ver) : Nat × Nat) => j ≤ L.length) (fun ((j, ver) : Nat × Nat) => L.length - j) ((0, 0)) ?_ ?_ ?_
  · exact Nat.zero_le _
  · refine (Gn.ownNil (t := 3) (sz := 1) rfl).trans ?_
    exact Gn.canon (J := []) (by first | rfl | (simp [List.append_nil]; done)) (by simp [wk, putT, kp, dd, sv, nl]) (by simp [List.length_append]) (by simp [bel_strs, bel_itV, bel_itT, kp, dd, sv, nl]) (by simp [bel_strs, bel_itV, bel_itT])
  rintro ⟨j, ver⟩ hj
  (try simp only at hj)
  simp (maxSteps := 2000000) -implicitDefEqProofs +contextual (disch := first | assumption | omega | decide +kernel) only [push_cast, ↓capI, br2_true, br2_false, frk_tt, frk_tf, frk_f, frkD_tt, frkD_tf, frkD_f, pk2_true, pk2_false, imp_true, seval, Nat.reduceLeDiff, Nat.reduceEqDiff, reduceCtorEq, ↓reduceIte, cfg0, getV_map, List.length_map, Nat.mul_one]
  refine ⟨fun hlt => ?_, fun hge => ?_⟩
  · have hlt2 : j < L.length := by omega
    have hst := map_stepG (f := itV) hlt2
    have hmem : L[j] ∈ L := List.getElem_mem hlt2
    have hwl := hle _ hmem
    generalize L[j] = w at hst hmem hwl ⊢
    have h59 := pc60 w (by omega)
    have hi : itV w = if (parseI w).2 = true ∧ 0 ≤ (parseI w).1 then .ifc 3 (.int .i64 (parseI w).1) else .ifc 9 (.str w) := rfl
    generalize parseI w = r at h59 hi
    obtain ⟨n, b⟩ := r
    refine callO.pc h59 ?_
    cases b
    · rw [if_neg (by simp)] at hi
      simp (maxSteps := 2000000) -implicitDefEqProofs +contextual (disch := first | assumption | omega | decide +kernel) only [push_cast, ↓capI, br2_true, br2_false, frk_tt, frk_tf, frk_f, frkD_tt, frkD_tf, frkD_f, pk2_true, pk2_false, imp_true, seval, Nat.reduceLeDiff, Nat.reduceEqDiff, reduceCtorEq, ↓reduceIte, cfg0, getV_map, List.length_map, Nat.mul_one, encIB]
      refine ⟨(j + 1, ver + 1), hlt2, by simp only; omega, ?_⟩
      exact Gn.canon (J := []) (by simp [hst, hi]; done) (by simp [wk]) (by simp) (by simp [bel_strs, bel_itV, bel_itT]) (by simp [bel_strs, bel_itV, bel_itT])
    · by_cases hn : 0 ≤ n
      · rw [if_pos ⟨rfl, hn⟩] at hi
        simp (maxSteps := 2000000) -implicitDefEqProofs +contextual (disch := first | assumption | omega | decide +kernel) only [push_cast, ↓capI, br2_true, br2_false, frk_tt, frk_tf, frk_f, frkD_tt, frkD_tf, frkD_f, pk2_true, pk2_false, imp_true, seval, Nat.reduceLeDiff, Nat.reduceEqDiff, reduceCtorEq, ↓reduceIte, cfg0, getV_map, List.length_map, Nat.mul_one, encIB, hn]
        refine ⟨(j + 1, ver + 1), hlt2, by simp only; omega, ?_⟩
        exact Gn.canon (J := []) (by simp [hst, hi]; done) (by simp [wk]) (by simp) (by simp [bel_strs, bel_itV, bel_itT]) (by simp [bel_strs, bel_itV, bel_itT])
      · rw [if_neg (fun h => hn h.2)] at hi
        simp (maxSteps := 2000000) -implicitDefEqProofs +contextual (disch := first | assumption | omega | decide +kernel) only [push_cast, ↓capI, br2_true, br2_false, frk_tt, frk_tf, frk_f, frkD_tt, frkD_tf, frkD_f, pk2_true, pk2_false, imp_true, seval, Nat.reduceLeDiff, Nat.reduceEqDiff, reduceCtorEq, ↓reduceIte, cfg0, getV_map, List.length_map, Nat.mul_one, encIB, hn]
        refine ⟨(j + 1, ver + 1), hlt2, by simp only; omega, ?_⟩
        exact Gn.canon (J := []) (by simp [hst, hi]; done) (by simp [wk]) (by simp) (by simp [bel_strs, bel_itV, bel_itT]) (by simp [bel_strs, bel_itV, bel_itT])
  · obtain rfl : j = L.length := by omega
    have htk : List.take L.length (L.map itV) = L.map itV := List.take_of_length_le (by simp)
    refine endK.gn (Gn.freeze (id := 0) rfl) ?_
    refine endK.ret ?_ (by simp [bel_strs, bel_itV, bel_itT])
    simp [evRes, getT, retV, Tryz.f48, fzs, fz, Nat.beq, htk]
end Go.Proofs.YtafongdfnpnneaaGreatDoor

/- Chapter 53: a line's items held against a pattern, by the program. -/
set_option maxRecDepth 100000
set_option maxHeartbeats 4000000
set_option linter.all false
namespace Go.Proofs.YtafongdfnpnneaaGreatDoor
open Go.Vm

theorem bel_encE {n : Nat} (e : Ev) : belAll n (encE e) = true := rfl
/-- the pattern's parts against a line's words: the event's numbers, as far as they agree -/
def mtch : List It → List (List UInt8) → Ev → Ev × Bool
  | [], [], e => (e, true)
  | .w t :: ps, u :: ws, e => if ¬ ((parseI u).2 = true ∧ 0 ≤ (parseI u).1) ∧ u = t then mtch ps ws e else (e, false)
  | .f i :: ps, u :: ws, e => if (parseI u).2 = true ∧ 0 ≤ (parseI u).1 then mtch ps ws (setF e i (parseI u).1) else (e, false)
  | _, _, e => (e, false)
def mres (e : Ev) (L : List (List UInt8)) : Ev × Bool := if L.length = (pat e).length then mtch (pat e) L e else (e, false)
theorem itV_cases (u : List UInt8) : (∃ n : Int, 0 ≤ n ∧ parseI u = (n, true) ∧ itV u = .ifc 3 (.int .i64 n)) ∨ (¬ ((parseI u).2 = true ∧ 0 ≤ (parseI u).1) ∧ itV u = .ifc 9 (.str u)) := by
  by_cases h : (parseI u).2 = true ∧ 0 ≤ (parseI u).1
  · left
    refine ⟨(parseI u).1, h.2, ?_, by rw [itV, if_pos h]⟩
    rw [← h.1]
  · right
    exact ⟨h, by rw [itV, if_neg h]⟩
theorem g44 (e : Ev) (L : List (List UInt8)) (hL : L.length ≤ 20001) :
    GCall Tryz.prog 49 [.sl false (L.map itV) L.length, .sl false ((pat e).map vIt) (pat e).length] [.cells 0 (encE e)] (.bool (mres e L).2) [.cells 0 (encE (mres e L).1)] := by
  have hpl := pat_len e
  by_cases hne : L.length = (pat e).length
  case neg =>
    have hr : mres e L = (e, false) := by rw [mres, if_neg hne]
    rw [hr]
    have hne2 : ¬ (L.length : Int) = ((pat e).length : Int) := by omega
    refine GC.walk tok mixed cfg0 Tryz.func49 rfl Tryz.call49 ?_; simp (maxSteps := 2000000) -implicitDefEqProofs +contextual (disch := first | assumption | omega | decide +kernel) only [push_cast, ↓capI, br2_true, br2_false, frk_tt, frk_tf, frk_f, frkD_tt, frkD_tf, frkD_f, pk2_true, pk2_false, imp_true, seval, Nat.reduceLeDiff, Nat.reduceEqDiff, reduceCtorEq, ↓reduceIte, cfg0, encE, getV_map, List.length_map, Nat.mul_one, Tryz.ntmps49]
    (try simp (maxSteps := 2000000) -implicitDefEqProofs +contextual (disch := first | assumption | omega | decide +kernel) only [push_cast, ↓capI, br2_true, br2_false, frk_tt, frk_tf, frk_f, frkD_tt, frkD_tf, frkD_f, pk2_true, pk2_false, imp_true, seval, Nat.reduceLeDiff, Nat.reduceEqDiff, reduceCtorEq, ↓reduceIte, cfg0, encE, getV_map, List.length_map, Nat.mul_one, hne2])
    refine endG.ret ([]) (by first | rfl | simp [bel_encE, bel_strs, bel_itV, bel_itT, bel_slM, bel_agE, fzs_ok, getO, setO, fzs, fz, fzH, Nat.beq, cfg0, encE, getV_map, List.length_map, Nat.mul_one]) (by simp) (by simp [bel_encE, bel_strs, bel_itV, bel_itT, bel_slM, bel_agE, fzs_ok, imp, lenOK_iff, List.take_of_length_le, evRes, getT, getO, setO, fzs, fz, fzH, Nat.beq, retV, Res.then, ldT, ldR, mkV, getV, cfg0, encE, getV_map, List.length_map, Nat.mul_one, Tryz.f49]) (by first | rfl | simp [bel_encE, bel_strs, bel_itV, bel_itT, bel_slM, bel_agE]) (by first | rfl | simp [bel_encE, bel_strs, bel_itV, bel_itT, bel_slM, bel_agE])
  have hr : mres e L = mtch (pat e) L e := by rw [mres, if_pos hne]
  rw [hr]
  have hf : ∀ i, It.f i ∈ pat e → i = 1 ∨ i = 2 ∨ i = 3 := fun i h => pat_f h
  generalize pat e = p at hne hpl hf ⊢
  refine GC.walk tok mixed cfg0 Tryz.func49 rfl Tryz.call49 ?_; simp (maxSteps := 2000000) -implicitDefEqProofs +contextual (disch := first | assumption | omega | decide +kernel) only [push_cast, ↓capI, br2_true, br2_false, frk_tt, frk_tf, frk_f, frkD_tt, frkD_tf, frkD_f, pk2_true, pk2_false, imp_true, seval, Nat.reduceLeDiff, Nat.reduceEqDiff, reduceCtorEq, ↓reduceIte, cfg0, encE, getV_map, List.length_map, Nat.mul_one, Tryz.ntmps49]
  simp (maxSteps := 2000000) -implicitDefEqProofs +contextual (disch := first | assumption | omega | decide +kernel) only [push_cast, ↓capI, br2_true, br2_false, frk_tt, frk_tf, frk_f, frkD_tt, frkD_tf, frkD_f, pk2_true, pk2_false, imp_true, seval, Nat.reduceLeDiff, Nat.reduceEqDiff, reduceCtorEq, ↓reduceIte, cfg0, encE, getV_map, List.length_map, Nat.mul_one, hne]
  refine T.lp tok mixed cfg0 (fun ((j, x) : Nat × Ev) => kp 1 (dd 15 (kp 2 (sv (.int .i64 j) (dd 31 (nl)))))) (fun H0 ((j, x) : Nat × Ev) => [.cells 0 (encE x)]) (fun ((j, x) : Nat × Ev) => j ≤ p.length ∧ mtch (p.drop j) (L.drop j) x = mtch p L e) (fun ((j, x) : Nat × Ev) => p.length - j) ((0, e)) ?_ ?_ ?_
  · exact ⟨Nat.zero_le _, rfl⟩
  · exact Gn.canon (J := []) (by first | rfl | (simp [List.append_nil]; done) | (simp [List.append_nil]; rfl)) (by simp [wk, putT, kp, dd, sv, nl]) (by simp [List.length_append]) (by simp [bel_encE, bel_strs, bel_itV, bel_itT, bel_slM, bel_agE, kp, dd, sv, nl]) (by simp [bel_encE, bel_strs, bel_itV, bel_itT, bel_slM, bel_agE])
  rintro ⟨j, x⟩ ⟨hj, hm⟩
  (try simp only at hj hm)
  simp (maxSteps := 2000000) -implicitDefEqProofs +contextual (disch := first | assumption | omega | decide +kernel) only [push_cast, ↓capI, br2_true, br2_false, frk_tt, frk_tf, frk_f, frkD_tt, frkD_tf, frkD_f, pk2_true, pk2_false, imp_true, seval, Nat.reduceLeDiff, Nat.reduceEqDiff, reduceCtorEq, ↓reduceIte, cfg0, encE, getV_map, List.length_map, Nat.mul_one]
  refine ⟨fun hlt => ?_, fun hge => ?_⟩
  · have hlt2 : j < p.length := by omega
    have hlt3 : j < L.length := by omega
    have hmem : p[j] ∈ p := List.getElem_mem hlt2
    rw [List.drop_eq_getElem_cons hlt2, List.drop_eq_getElem_cons hlt3] at hm
    generalize hp0 : p[j] = it at hm hmem
    generalize hu0 : L[j] = u at hm
    have hu := itV_cases u
    cases it with
    | w t =>
      rw [mtch] at hm
      rcases hu with ⟨n, h0, h1, h2⟩ | ⟨h1, h2⟩
      · rw [if_neg (by rw [h1]; exact fun h => h.1 ⟨rfl, h0⟩)] at hm
        rw [← hm]
        simp (maxSteps := 2000000) -implicitDefEqProofs +contextual (disch := first | assumption | omega | decide +kernel) only [push_cast, ↓capI, br2_true, br2_false, frk_tt, frk_tf, frk_f, frkD_tt, frkD_tf, frkD_f, pk2_true, pk2_false, imp_true, seval, Nat.reduceLeDiff, Nat.reduceEqDiff, reduceCtorEq, ↓reduceIte, cfg0, encE, getV_map, List.length_map, Nat.mul_one, hp0, hu0, vIt, h2]
        refine endG.ret ([]) (by first | rfl | simp [bel_encE, bel_strs, bel_itV, bel_itT, bel_slM, bel_agE, fzs_ok, getO, setO, fzs, fz, fzH, Nat.beq, cfg0, encE, getV_map, List.length_map, Nat.mul_one]) (by simp) (by simp [bel_encE, bel_strs, bel_itV, bel_itT, bel_slM, bel_agE, fzs_ok, imp, lenOK_iff, List.take_of_length_le, evRes, getT, getO, setO, fzs, fz, fzH, Nat.beq, retV, Res.then, ldT, ldR, mkV, getV, cfg0, encE, getV_map, List.length_map, Nat.mul_one, Tryz.f49]) (by first | rfl | simp [bel_encE, bel_strs, bel_itV, bel_itT, bel_slM, bel_agE]) (by first | rfl | simp [bel_encE, bel_strs, bel_itV, bel_itT, bel_slM, bel_agE])
      · by_cases ht : u = t
        · rw [if_pos ⟨h1, ht⟩] at hm
          subst ht
          simp (maxSteps := 2000000) -implicitDefEqProofs +contextual (disch := first | assumption | omega | decide +kernel) only [push_cast, ↓capI, br2_true, br2_false, frk_tt, frk_tf, frk_f, frkD_tt, frkD_tf, frkD_f, pk2_true, pk2_false, imp_true, seval, Nat.reduceLeDiff, Nat.reduceEqDiff, reduceCtorEq, ↓reduceIte, cfg0, encE, getV_map, List.length_map, Nat.mul_one, hp0, hu0, vIt, h2]
          refine ⟨(j + 1, x), ⟨by omega, hm⟩, by (try simp only); omega, ?_⟩; exact Gn.canon (by first | rfl | (simp [List.append_nil]; rfl)) (by simp [wk]) (by simp [List.length_append]) (by simp [bel_encE, bel_strs, bel_itV, bel_itT, bel_slM, bel_agE]) (by simp [bel_encE, bel_strs, bel_itV, bel_itT, bel_slM, bel_agE])
        · rw [if_neg (fun h => ht h.2)] at hm
          rw [← hm]
          simp (maxSteps := 2000000) -implicitDefEqProofs +contextual (disch := first | assumption | omega | decide +kernel) only [push_cast, ↓capI, br2_true, br2_false, frk_tt, frk_tf, frk_f, frkD_tt, frkD_tf, frkD_f, pk2_true, pk2_false, imp_true, seval, Nat.reduceLeDiff, Nat.reduceEqDiff, reduceCtorEq, ↓reduceIte, cfg0, encE, getV_map, List.length_map, Nat.mul_one, hp0, hu0, vIt, h2, ht]
          refine endG.ret ([]) (by first | rfl | simp [bel_encE, bel_strs, bel_itV, bel_itT, bel_slM, bel_agE, fzs_ok, getO, setO, fzs, fz, fzH, Nat.beq, cfg0, encE, getV_map, List.length_map, Nat.mul_one]) (by simp) (by simp [bel_encE, bel_strs, bel_itV, bel_itT, bel_slM, bel_agE, fzs_ok, imp, lenOK_iff, List.take_of_length_le, evRes, getT, getO, setO, fzs, fz, fzH, Nat.beq, retV, Res.then, ldT, ldR, mkV, getV, cfg0, encE, getV_map, List.length_map, Nat.mul_one, Tryz.f49]) (by first | rfl | simp [bel_encE, bel_strs, bel_itV, bel_itT, bel_slM, bel_agE]) (by first | rfl | simp [bel_encE, bel_strs, bel_itV, bel_itT, bel_slM, bel_agE])
    | f i =>
      have hi := hf i hmem
      rw [mtch] at hm
      rcases hu with ⟨n, h0, h1, h2⟩ | ⟨h1, h2⟩
      · rw [if_pos (by rw [h1]; exact ⟨rfl, h0⟩), h1] at hm
        rcases hi with rfl | rfl | rfl
        · simp (maxSteps := 2000000) -implicitDefEqProofs +contextual (disch := first | assumption | omega | decide +kernel) only [push_cast, ↓capI, br2_true, br2_false, frk_tt, frk_tf, frk_f, frkD_tt, frkD_tf, frkD_f, pk2_true, pk2_false, imp_true, seval, Nat.reduceLeDiff, Nat.reduceEqDiff, reduceCtorEq, ↓reduceIte, cfg0, encE, getV_map, List.length_map, Nat.mul_one, hp0, hu0, vIt, h2]
          refine ⟨(j + 1, setF x 1 n), ⟨by omega, hm⟩, by (try simp only); omega, ?_⟩; exact Gn.canon (by first | rfl | (simp [List.append_nil, setF]; rfl)) (by simp [wk, setF]) (by simp [List.length_append]) (by simp [bel_encE, bel_strs, bel_itV, bel_itT, bel_slM, bel_agE]) (by simp [bel_encE, bel_strs, bel_itV, bel_itT, bel_slM, bel_agE])
        · simp (maxSteps := 2000000) -implicitDefEqProofs +contextual (disch := first | assumption | omega | decide +kernel) only [push_cast, ↓capI, br2_true, br2_false, frk_tt, frk_tf, frk_f, frkD_tt, frkD_tf, frkD_f, pk2_true, pk2_false, imp_true, seval, Nat.reduceLeDiff, Nat.reduceEqDiff, reduceCtorEq, ↓reduceIte, cfg0, encE, getV_map, List.length_map, Nat.mul_one, hp0, hu0, vIt, h2]
          refine ⟨(j + 1, setF x 2 n), ⟨by omega, hm⟩, by (try simp only); omega, ?_⟩; exact Gn.canon (by first | rfl | (simp [List.append_nil, setF]; rfl)) (by simp [wk, setF]) (by simp [List.length_append]) (by simp [bel_encE, bel_strs, bel_itV, bel_itT, bel_slM, bel_agE]) (by simp [bel_encE, bel_strs, bel_itV, bel_itT, bel_slM, bel_agE])
        · simp (maxSteps := 2000000) -implicitDefEqProofs +contextual (disch := first | assumption | omega | decide +kernel) only [push_cast, ↓capI, br2_true, br2_false, frk_tt, frk_tf, frk_f, frkD_tt, frkD_tf, frkD_f, pk2_true, pk2_false, imp_true, seval, Nat.reduceLeDiff, Nat.reduceEqDiff, reduceCtorEq, ↓reduceIte, cfg0, encE, getV_map, List.length_map, Nat.mul_one, hp0, hu0, vIt, h2]
          refine ⟨(j + 1, setF x 3 n), ⟨by omega, hm⟩, by (try simp only); omega, ?_⟩; exact Gn.canon (by first | rfl | (simp [List.append_nil, setF]; rfl)) (by simp [wk, setF]) (by simp [List.length_append]) (by simp [bel_encE, bel_strs, bel_itV, bel_itT, bel_slM, bel_agE]) (by simp [bel_encE, bel_strs, bel_itV, bel_itT, bel_slM, bel_agE])
      · rw [if_neg h1] at hm
        rw [← hm]
        simp (maxSteps := 2000000) -implicitDefEqProofs +contextual (disch := first | assumption | omega | decide +kernel) only [push_cast, ↓capI, br2_true, br2_false, frk_tt, frk_tf, frk_f, frkD_tt, frkD_tf, frkD_f, pk2_true, pk2_false, imp_true, seval, Nat.reduceLeDiff, Nat.reduceEqDiff, reduceCtorEq, ↓reduceIte, cfg0, encE, getV_map, List.length_map, Nat.mul_one, hp0, hu0, vIt, h2]
        refine endG.ret ([]) (by first | rfl | simp [bel_encE, bel_strs, bel_itV, bel_itT, bel_slM, bel_agE, fzs_ok, getO, setO, fzs, fz, fzH, Nat.beq, cfg0, encE, getV_map, List.length_map, Nat.mul_one]) (by simp) (by simp [bel_encE, bel_strs, bel_itV, bel_itT, bel_slM, bel_agE, fzs_ok, imp, lenOK_iff, List.take_of_length_le, evRes, getT, getO, setO, fzs, fz, fzH, Nat.beq, retV, Res.then, ldT, ldR, mkV, getV, cfg0, encE, getV_map, List.length_map, Nat.mul_one, Tryz.f49]) (by first | rfl | simp [bel_encE, bel_strs, bel_itV, bel_itT, bel_slM, bel_agE]) (by first | rfl | simp [bel_encE, bel_strs, bel_itV, bel_itT, bel_slM, bel_agE])
  · have hje : j = p.length := by omega
    subst hje
    rw [List.drop_of_length_le (Nat.le_refl _), List.drop_of_length_le (by omega), mtch] at hm
    rw [← hm]
    simp (maxSteps := 2000000) -implicitDefEqProofs +contextual (disch := first | assumption | omega | decide +kernel) only [push_cast, ↓capI, br2_true, br2_false, frk_tt, frk_tf, frk_f, frkD_tt, frkD_tf, frkD_f, pk2_true, pk2_false, imp_true, seval, Nat.reduceLeDiff, Nat.reduceEqDiff, reduceCtorEq, ↓reduceIte, cfg0, encE, getV_map, List.length_map, Nat.mul_one]
    refine endG.ret ([]) (by first | rfl | simp [bel_encE, bel_strs, bel_itV, bel_itT, bel_slM, bel_agE, fzs_ok, getO, setO, fzs, fz, fzH, Nat.beq, cfg0, encE, getV_map, List.length_map, Nat.mul_one]) (by simp) (by simp [bel_encE, bel_strs, bel_itV, bel_itT, bel_slM, bel_agE, fzs_ok, imp, lenOK_iff, List.take_of_length_le, evRes, getT, getO, setO, fzs, fz, fzH, Nat.beq, retV, Res.then, ldT, ldR, mkV, getV, cfg0, encE, getV_map, List.length_map, Nat.mul_one, Tryz.f49]) (by first | rfl | simp [bel_encE, bel_strs, bel_itV, bel_itT, bel_slM, bel_agE]) (by first | rfl | simp [bel_encE, bel_strs, bel_itV, bel_itT, bel_slM, bel_agE])
end Go.Proofs.YtafongdfnpnneaaGreatDoor

/- Chapter 53: the events that a line's words can belong to, in plain terms. -/
set_option maxRecDepth 100000
set_option maxHeartbeats 4000000
set_option linter.all false
namespace Go.Proofs.YtafongdfnpnneaaGreatDoor
open Go.Vm

/-- what the program starts from: kind by kind, two variants -/
def cands : List Ev := [⟨1, 0, 0, 0⟩, ⟨1, 0, 0, 0⟩, ⟨2, 0, 0, 0⟩, ⟨2, 0, 0, -1⟩, ⟨3, 0, 0, 0⟩, ⟨3, 0, 0, 0⟩, ⟨4, 0, 0, 0⟩, ⟨4, 0, 0, 0⟩, ⟨5, 0, 0, 0⟩, ⟨5, 0, 0, 0⟩, ⟨6, 0, 0, 0⟩, ⟨6, 0, 1, 0⟩]
def tryE (L : List (List UInt8)) (e : Ev) : Option Ev := if (mres e L).2 = true ∧ chkE (mres e L).1 = 0 then some (mres e L).1 else none
def parE (L : List (List UInt8)) : Option Ev := cands.findSome? (tryE L)
def wdsE (e : Ev) : List (List UInt8) := (pat e).map (wd e)

/-- a number's text is the number's digits -/
theorem parseI_dgs {u : List UInt8} {n : Int} (h : parseI u = (n, true)) (h0 : 0 ≤ n) : u = dgs 9 n.toNat ∧ n < 1000000000 := by
  unfold parseI at h
  split at h
  · split at h
    · simp at h
    · split at h
      · split at h
        · simp at h
        · rename_i v _ hv
          simp only [Prod.mk.injEq, and_true] at h
          omega
      · simp at h
  · split at h
    · simp at h
    · rename_i hc
      simp only [not_or, Bool.not_eq_false] at hc
      split at h
      · rename_i v hv
        simp only [Prod.mk.injEq, and_true] at h
        subst h
        have hlt := valL_lt hv
        have hne := canonD_pos hc.2
        have hall : ∀ (s : List UInt8) (v r : Nat), valL s v = some r → ∀ c, c ∈ s → isDig c = true := by
          intro s
          induction s with
          | nil => intro v r _ c hc; cases hc
          | cons x s ih =>
            intro v r h c hc
            rw [valL] at h
            split at h
            · rename_i hd
              rcases List.mem_cons.1 hc with rfl | hc
              · exact hd
              · exact ih _ _ h c hc
            · cases h
        refine ⟨?_, ?_⟩
        · rw [Int.toNat_natCast]
          exact (dgs_val 9 u v (by rintro rfl; simp at hne) (by omega) (hall _ _ _ hv) hc.2 hv).symm
        · have : 10 ^ u.length ≤ 10 ^ 9 := Nat.pow_le_pow_right (by omega) (by omega)
          have : (10 : Nat) ^ 9 = 1000000000 := by decide
          omega
      · simp at h
theorem dgt {m : Nat} (h : m < 10) : isDig (UInt8.ofNat (48 + m)) = true ∧ (UInt8.ofNat (48 + m)).toNat = 48 + m := by
  have e : (UInt8.ofNat (48 + m)).toNat = 48 + m := by
    rw [UInt8.toNat_ofNat', Nat.mod_eq_of_lt]
    omega
  refine ⟨?_, e⟩
  simp only [isDig, e, Bool.and_eq_true, decide_eq_true_eq]
  omega
theorem dgs_dig : ∀ (k n : Nat), ∀ c ∈ dgs k n, isDig c = true
  | 0, n, c, h => by simp [dgs] at h
  | k + 1, n, c, h => by
    rw [dgs] at h
    split at h
    · rename_i h1
      rw [List.mem_singleton] at h
      subst h
      exact (dgt h1).1
    · rcases List.mem_append.1 h with h | h
      · exact dgs_dig k _ c h
      · rw [List.mem_singleton] at h
        subst h
        exact (dgt (Nat.mod_lt _ (by decide))).1
theorem valL_dgs : ∀ (k n : Nat), 1 ≤ k → n < 10 ^ k → valL (dgs k n) 0 = some n
  | 0, _, h, _ => absurd h (by decide)
  | k + 1, n, _, h => by
    rw [dgs]
    split
    · rename_i h1
      obtain ⟨a, b⟩ := dgt h1
      rw [valL, if_pos a, b, valL]
      simp
    · rename_i h1
      obtain ⟨a, b⟩ := dgt (m := n % 10) (Nat.mod_lt _ (by decide))
      have hk : 1 ≤ k := by
        cases k with
        | zero => simp at h; omega
        | succ k => omega
      rw [valL_app, valL_dgs k (n / 10) hk (by rw [Nat.pow_succ] at h; omega)]
      simp only [Option.bind_some]
      rw [valL, if_pos a, b, valL]
      congr 1
      omega
theorem dgs_ne {n : Nat} (h : n < 1000000000) : dgs 9 n ≠ [] := (dgs_head 9 n h (by decide)).1
theorem parse_dgs {n : Nat} (h : n < 1000000000) : parseI (dgs 9 n) = ((n : Int), true) := by
  have hb : begins (dgs 9 n) [45] = false := by
    cases hd : dgs 9 n with
    | nil => rfl
    | cons x r =>
      have h1 := dgs_dig 9 n x (by rw [hd]; exact List.mem_cons_self ..)
      simp only [begins, List.length_cons, List.length_nil, Nat.zero_add, List.take_succ_cons, List.take_zero]
      have : x ≠ 45 := by rintro rfl; revert h1; decide
      have e : ([x] == [(45 : UInt8)]) = false := by simpa using this
      rw [e, Bool.and_false]
  have hl := dgs_len 9 n
  rw [parseI, if_neg (by rw [hb]; decide), if_neg (by rw [dgs_canon n h]; simp; omega), valL_dgs 9 n (by decide) h]
theorem dgs_inj {m n : Nat} (hm : m < 1000000000) (hn : n < 1000000000) (h : dgs 9 m = dgs 9 n) : m = n := by
  have := parse_dgs hm
  rw [h, parse_dgs hn] at this
  simp only [Prod.mk.injEq, and_true] at this
  omega

theorem okN_lt {n : Int} (h : okN n = true) : 0 ≤ n ∧ n.toNat < 1000000000 := by
  simp only [okN, Bool.and_eq_true, decide_eq_true_eq] at h
  omega
theorem okN_inj {m n : Int} (hm : okN m = true) (hn : okN n = true) (h : dgs 9 m.toNat = dgs 9 n.toNat) : m = n := by
  have := dgs_inj (okN_lt hm).2 (okN_lt hn).2 h
  have := okN_lt hm
  have := okN_lt hn
  omega
/-- the numbers of a word -/
def isN (u : List UInt8) : Prop := (parseI u).2 = true ∧ 0 ≤ (parseI u).1
instance (u : List UInt8) : Decidable (isN u) := by unfold isN; exact inferInstance
theorem isN_dgs {n : Int} (h : okN n = true) : isN (dgs 9 n.toNat) ∧ (parseI (dgs 9 n.toNat)).1 = n := by
  obtain ⟨h0, h1⟩ := okN_lt h
  rw [isN, parse_dgs h1]
  exact ⟨⟨rfl, by simp only; omega⟩, by simp only; omega⟩
theorem mtch_w {t u : List UInt8} {ps : List It} {ws : List (List UInt8)} {e x : Ev} (h : mtch (.w t :: ps) (u :: ws) e = (x, true)) : u = t ∧ mtch ps ws e = (x, true) := by
  rw [mtch] at h
  split at h
  · rename_i h1
    exact ⟨h1.2, h⟩
  · simp at h
theorem mtch_f {i : Nat} {u : List UInt8} {ps : List It} {ws : List (List UInt8)} {e x : Ev} (h : mtch (.f i :: ps) (u :: ws) e = (x, true)) :
    ∃ n : Int, parseI u = (n, true) ∧ 0 ≤ n ∧ u = dgs 9 n.toNat ∧ mtch ps ws (setF e i n) = (x, true) := by
  rw [mtch] at h
  split at h
  · rename_i h1
    have e1 : parseI u = ((parseI u).1, true) := by rw [← h1.1]
    exact ⟨(parseI u).1, e1, h1.2, (parseI_dgs e1 h1.2).1, h⟩
  · simp at h
theorem mtch_n {e x : Ev} (h : mtch [] [] e = (x, true)) : x = e := by
  rw [mtch] at h
  simpa using h.symm
theorem all_len {α : Type} {l : List α} : ∀ {n : Nat}, l.length = n + 1 → ∃ x t, l = x :: t ∧ t.length = n := by
  intro n h
  cases l with
  | nil => simp at h
  | cons x t => exact ⟨x, t, rfl, by simpa using h⟩
theorem all_nil {α : Type} {l : List α} (h : l.length = 0) : l = [] := List.eq_nil_of_length_eq_zero h
/-- what a candidate becomes has just these words -/
theorem try_sound {L : List (List UInt8)} {e x : Ev} (hc : e ∈ cands) (h : tryE L e = some x) : chkE x = 0 ∧ tidy x ∧ L = wdsE x := by
  rw [tryE] at h
  split at h
  case isFalse => simp at h
  rename_i hm
  simp only [Option.some.injEq] at h
  obtain ⟨h2, h3⟩ := hm
  have hr : mres e L = (x, true) := by rw [← h, ← h2]
  rw [h] at h3
  refine ⟨h3, ?_⟩
  rw [mres] at hr
  split at hr
  case isFalse => simp at hr
  rename_i hl
  simp only [cands, List.mem_cons, List.not_mem_nil, or_false] at hc
  rcases hc with rfl | rfl | rfl | rfl | rfl | rfl | rfl | rfl | rfl | rfl | rfl | rfl
  all_goals
    simp [pat] at hl hr
  · obtain ⟨u1, L1, rfl, hl1⟩ := all_len hl
    obtain ⟨u2, L2, rfl, hl2⟩ := all_len hl1
    obtain ⟨u3, L3, rfl, hl3⟩ := all_len hl2
    obtain ⟨u4, L4, rfl, hl4⟩ := all_len hl3
    obtain ⟨u5, L5, rfl, hl5⟩ := all_len hl4
    obtain ⟨u6, L6, rfl, hl6⟩ := all_len hl5
    obtain rfl := all_nil hl6
    obtain ⟨rfl, hr1⟩ := mtch_w hr
    obtain ⟨n1, p1, q1, rfl, hr2⟩ := mtch_f hr1
    obtain ⟨rfl, hr3⟩ := mtch_w hr2
    obtain ⟨rfl, hr4⟩ := mtch_w hr3
    obtain ⟨rfl, hr5⟩ := mtch_w hr4
    obtain ⟨n2, p2, q2, rfl, hr6⟩ := mtch_f hr5
    obtain rfl := mtch_n hr6
    exact ⟨by simp [tidy, setF], by simp [wdsE, pat, wd, fld, setF]⟩
  · obtain ⟨u1, L1, rfl, hl1⟩ := all_len hl
    obtain ⟨u2, L2, rfl, hl2⟩ := all_len hl1
    obtain ⟨u3, L3, rfl, hl3⟩ := all_len hl2
    obtain ⟨u4, L4, rfl, hl4⟩ := all_len hl3
    obtain ⟨u5, L5, rfl, hl5⟩ := all_len hl4
    obtain ⟨u6, L6, rfl, hl6⟩ := all_len hl5
    obtain rfl := all_nil hl6
    obtain ⟨rfl, hr1⟩ := mtch_w hr
    obtain ⟨n1, p1, q1, rfl, hr2⟩ := mtch_f hr1
    obtain ⟨rfl, hr3⟩ := mtch_w hr2
    obtain ⟨rfl, hr4⟩ := mtch_w hr3
    obtain ⟨rfl, hr5⟩ := mtch_w hr4
    obtain ⟨n2, p2, q2, rfl, hr6⟩ := mtch_f hr5
    obtain rfl := mtch_n hr6
    exact ⟨by simp [tidy, setF], by simp [wdsE, pat, wd, fld, setF]⟩
  · obtain ⟨u1, L1, rfl, hl1⟩ := all_len hl
    obtain ⟨u2, L2, rfl, hl2⟩ := all_len hl1
    obtain ⟨u3, L3, rfl, hl3⟩ := all_len hl2
    obtain ⟨u4, L4, rfl, hl4⟩ := all_len hl3
    obtain ⟨u5, L5, rfl, hl5⟩ := all_len hl4
    obtain ⟨u6, L6, rfl, hl6⟩ := all_len hl5
    obtain ⟨u7, L7, rfl, hl7⟩ := all_len hl6
    obtain ⟨u8, L8, rfl, hl8⟩ := all_len hl7
    obtain rfl := all_nil hl8
    obtain ⟨rfl, hr1⟩ := mtch_w hr
    obtain ⟨n1, p1, q1, rfl, hr2⟩ := mtch_f hr1
    obtain ⟨rfl, hr3⟩ := mtch_w hr2
    obtain ⟨rfl, hr4⟩ := mtch_w hr3
    obtain ⟨n2, p2, q2, rfl, hr5⟩ := mtch_f hr4
    obtain ⟨rfl, hr6⟩ := mtch_w hr5
    obtain ⟨rfl, hr7⟩ := mtch_w hr6
    obtain ⟨n3, p3, q3, rfl, hr8⟩ := mtch_f hr7
    obtain rfl := mtch_n hr8
    have hc : ¬ n3 = -1 := by omega
    exact ⟨by simp [tidy, setF], by simp [wdsE, pat, wd, fld, setF, hc]⟩
  · obtain ⟨u1, L1, rfl, hl1⟩ := all_len hl
    obtain ⟨u2, L2, rfl, hl2⟩ := all_len hl1
    obtain ⟨u3, L3, rfl, hl3⟩ := all_len hl2
    obtain ⟨u4, L4, rfl, hl4⟩ := all_len hl3
    obtain ⟨u5, L5, rfl, hl5⟩ := all_len hl4
    obtain ⟨u6, L6, rfl, hl6⟩ := all_len hl5
    obtain rfl := all_nil hl6
    obtain ⟨rfl, hr1⟩ := mtch_w hr
    obtain ⟨n1, p1, q1, rfl, hr2⟩ := mtch_f hr1
    obtain ⟨rfl, hr3⟩ := mtch_w hr2
    obtain ⟨rfl, hr4⟩ := mtch_w hr3
    obtain ⟨n2, p2, q2, rfl, hr5⟩ := mtch_f hr4
    obtain ⟨rfl, hr6⟩ := mtch_w hr5
    obtain rfl := mtch_n hr6
    exact ⟨by simp [tidy, setF], by simp [wdsE, pat, wd, fld, setF]⟩
  · obtain ⟨u1, L1, rfl, hl1⟩ := all_len hl
    obtain ⟨u2, L2, rfl, hl2⟩ := all_len hl1
    obtain ⟨u3, L3, rfl, hl3⟩ := all_len hl2
    obtain ⟨u4, L4, rfl, hl4⟩ := all_len hl3
    obtain ⟨u5, L5, rfl, hl5⟩ := all_len hl4
    obtain ⟨u6, L6, rfl, hl6⟩ := all_len hl5
    obtain rfl := all_nil hl6
    obtain ⟨rfl, hr1⟩ := mtch_w hr
    obtain ⟨n1, p1, q1, rfl, hr2⟩ := mtch_f hr1
    obtain ⟨rfl, hr3⟩ := mtch_w hr2
    obtain ⟨rfl, hr4⟩ := mtch_w hr3
    obtain ⟨rfl, hr5⟩ := mtch_w hr4
    obtain ⟨n2, p2, q2, rfl, hr6⟩ := mtch_f hr5
    obtain rfl := mtch_n hr6
    exact ⟨by simp [tidy, setF], by simp [wdsE, pat, wd, fld, setF]⟩
  · obtain ⟨u1, L1, rfl, hl1⟩ := all_len hl
    obtain ⟨u2, L2, rfl, hl2⟩ := all_len hl1
    obtain ⟨u3, L3, rfl, hl3⟩ := all_len hl2
    obtain ⟨u4, L4, rfl, hl4⟩ := all_len hl3
    obtain ⟨u5, L5, rfl, hl5⟩ := all_len hl4
    obtain ⟨u6, L6, rfl, hl6⟩ := all_len hl5
    obtain rfl := all_nil hl6
    obtain ⟨rfl, hr1⟩ := mtch_w hr
    obtain ⟨n1, p1, q1, rfl, hr2⟩ := mtch_f hr1
    obtain ⟨rfl, hr3⟩ := mtch_w hr2
    obtain ⟨rfl, hr4⟩ := mtch_w hr3
    obtain ⟨rfl, hr5⟩ := mtch_w hr4
    obtain ⟨n2, p2, q2, rfl, hr6⟩ := mtch_f hr5
    obtain rfl := mtch_n hr6
    exact ⟨by simp [tidy, setF], by simp [wdsE, pat, wd, fld, setF]⟩
  · obtain ⟨u1, L1, rfl, hl1⟩ := all_len hl
    obtain ⟨u2, L2, rfl, hl2⟩ := all_len hl1
    obtain ⟨u3, L3, rfl, hl3⟩ := all_len hl2
    obtain ⟨u4, L4, rfl, hl4⟩ := all_len hl3
    obtain ⟨u5, L5, rfl, hl5⟩ := all_len hl4
    obtain ⟨u6, L6, rfl, hl6⟩ := all_len hl5
    obtain ⟨u7, L7, rfl, hl7⟩ := all_len hl6
    obtain ⟨u8, L8, rfl, hl8⟩ := all_len hl7
    obtain rfl := all_nil hl8
    obtain ⟨rfl, hr1⟩ := mtch_w hr
    obtain ⟨n1, p1, q1, rfl, hr2⟩ := mtch_f hr1
    obtain ⟨rfl, hr3⟩ := mtch_w hr2
    obtain ⟨rfl, hr4⟩ := mtch_w hr3
    obtain ⟨rfl, hr5⟩ := mtch_w hr4
    obtain ⟨n2, p2, q2, rfl, hr6⟩ := mtch_f hr5
    obtain ⟨rfl, hr7⟩ := mtch_w hr6
    obtain ⟨n3, p3, q3, rfl, hr8⟩ := mtch_f hr7
    obtain rfl := mtch_n hr8
    exact ⟨by simp [tidy, setF], by simp [wdsE, pat, wd, fld, setF]⟩
  · obtain ⟨u1, L1, rfl, hl1⟩ := all_len hl
    obtain ⟨u2, L2, rfl, hl2⟩ := all_len hl1
    obtain ⟨u3, L3, rfl, hl3⟩ := all_len hl2
    obtain ⟨u4, L4, rfl, hl4⟩ := all_len hl3
    obtain ⟨u5, L5, rfl, hl5⟩ := all_len hl4
    obtain ⟨u6, L6, rfl, hl6⟩ := all_len hl5
    obtain ⟨u7, L7, rfl, hl7⟩ := all_len hl6
    obtain ⟨u8, L8, rfl, hl8⟩ := all_len hl7
    obtain rfl := all_nil hl8
    obtain ⟨rfl, hr1⟩ := mtch_w hr
    obtain ⟨n1, p1, q1, rfl, hr2⟩ := mtch_f hr1
    obtain ⟨rfl, hr3⟩ := mtch_w hr2
    obtain ⟨rfl, hr4⟩ := mtch_w hr3
    obtain ⟨rfl, hr5⟩ := mtch_w hr4
    obtain ⟨n2, p2, q2, rfl, hr6⟩ := mtch_f hr5
    obtain ⟨rfl, hr7⟩ := mtch_w hr6
    obtain ⟨n3, p3, q3, rfl, hr8⟩ := mtch_f hr7
    obtain rfl := mtch_n hr8
    exact ⟨by simp [tidy, setF], by simp [wdsE, pat, wd, fld, setF]⟩
  · obtain ⟨u1, L1, rfl, hl1⟩ := all_len hl
    obtain ⟨u2, L2, rfl, hl2⟩ := all_len hl1
    obtain ⟨u3, L3, rfl, hl3⟩ := all_len hl2
    obtain ⟨u4, L4, rfl, hl4⟩ := all_len hl3
    obtain rfl := all_nil hl4
    obtain ⟨rfl, hr1⟩ := mtch_w hr
    obtain ⟨n1, p1, q1, rfl, hr2⟩ := mtch_f hr1
    obtain ⟨rfl, hr3⟩ := mtch_w hr2
    obtain ⟨n2, p2, q2, rfl, hr4⟩ := mtch_f hr3
    obtain rfl := mtch_n hr4
    exact ⟨by simp [tidy, setF], by simp [wdsE, pat, wd, fld, setF]⟩
  · obtain ⟨u1, L1, rfl, hl1⟩ := all_len hl
    obtain ⟨u2, L2, rfl, hl2⟩ := all_len hl1
    obtain ⟨u3, L3, rfl, hl3⟩ := all_len hl2
    obtain ⟨u4, L4, rfl, hl4⟩ := all_len hl3
    obtain rfl := all_nil hl4
    obtain ⟨rfl, hr1⟩ := mtch_w hr
    obtain ⟨n1, p1, q1, rfl, hr2⟩ := mtch_f hr1
    obtain ⟨rfl, hr3⟩ := mtch_w hr2
    obtain ⟨n2, p2, q2, rfl, hr4⟩ := mtch_f hr3
    obtain rfl := mtch_n hr4
    exact ⟨by simp [tidy, setF], by simp [wdsE, pat, wd, fld, setF]⟩
  · obtain ⟨u1, L1, rfl, hl1⟩ := all_len hl
    obtain ⟨u2, L2, rfl, hl2⟩ := all_len hl1
    obtain ⟨u3, L3, rfl, hl3⟩ := all_len hl2
    obtain rfl := all_nil hl3
    obtain ⟨rfl, hr1⟩ := mtch_w hr
    obtain ⟨n1, p1, q1, rfl, hr2⟩ := mtch_f hr1
    obtain ⟨rfl, hr3⟩ := mtch_w hr2
    obtain rfl := mtch_n hr3
    exact ⟨by simp [tidy, setF], by simp [wdsE, pat, wd, fld, setF]⟩
  · obtain ⟨u1, L1, rfl, hl1⟩ := all_len hl
    obtain ⟨u2, L2, rfl, hl2⟩ := all_len hl1
    obtain ⟨u3, L3, rfl, hl3⟩ := all_len hl2
    obtain rfl := all_nil hl3
    obtain ⟨rfl, hr1⟩ := mtch_w hr
    obtain ⟨n1, p1, q1, rfl, hr2⟩ := mtch_f hr1
    obtain ⟨rfl, hr3⟩ := mtch_w hr2
    obtain rfl := mtch_n hr3
    exact ⟨by simp [tidy, setF], by simp [wdsE, pat, wd, fld, setF]⟩
theorem nwPacket : ¬ ((parseI wPacket).2 = true ∧ 0 ≤ (parseI wPacket).1) := by decide +kernel
theorem nwSent : ¬ ((parseI wSent).2 = true ∧ 0 ≤ (parseI wSent).1) := by decide +kernel
theorem nwBy : ¬ ((parseI wBy).2 = true ∧ 0 ≤ (parseI wBy).1) := by decide +kernel
theorem nwHost : ¬ ((parseI wHost).2 = true ∧ 0 ≤ (parseI wHost).1) := by decide +kernel
theorem nwAt : ¬ ((parseI wAt).2 = true ∧ 0 ≤ (parseI wAt).1) := by decide +kernel
theorem nwSwitch : ¬ ((parseI wSwitch).2 = true ∧ 0 ≤ (parseI wSwitch).1) := by decide +kernel
theorem nwTo : ¬ ((parseI wTo).2 = true ∧ 0 ≤ (parseI wTo).1) := by decide +kernel
theorem nwPort : ¬ ((parseI wPort).2 = true ∧ 0 ≤ (parseI wPort).1) := by decide +kernel
theorem nwDropped : ¬ ((parseI wDropped).2 = true ∧ 0 ≤ (parseI wDropped).1) := by decide +kernel
theorem nwDelivered : ¬ ((parseI wDelivered).2 = true ∧ 0 ≤ (parseI wDelivered).1) := by decide +kernel
theorem nwLost : ¬ ((parseI wLost).2 = true ∧ 0 ≤ (parseI wLost).1) := by decide +kernel
theorem nwPhase : ¬ ((parseI wPhase).2 = true ∧ 0 ≤ (parseI wPhase).1) := by decide +kernel
theorem nwStep : ¬ ((parseI wStep).2 = true ∧ 0 ≤ (parseI wStep).1) := by decide +kernel
theorem nwLink : ¬ ((parseI wLink).2 = true ∧ 0 ≤ (parseI wLink).1) := by decide +kernel
theorem nwUp : ¬ ((parseI wUp).2 = true ∧ 0 ≤ (parseI wUp).1) := by decide +kernel
theorem nwDown : ¬ ((parseI wDown).2 = true ∧ 0 ≤ (parseI wDown).1) := by decide +kernel
/-- the eight kinds of lines -/
inductive Form (e : Ev) : Prop where
  | f1 (a b : Int) (h : e = ⟨1, a, b, 0⟩) (h0 : okN a = true) (h1 : okN b = true)
  | f2 (a b c : Int) (h : e = ⟨2, a, b, c⟩) (h0 : c ≠ -1) (h1 : okN a = true) (h2 : okN b = true) (h3 : okN c = true)
  | f2d (a b : Int) (h : e = ⟨2, a, b, -1⟩) (h0 : okN a = true) (h1 : okN b = true)
  | f3 (a b : Int) (h : e = ⟨3, a, b, 0⟩) (h0 : okN a = true) (h1 : okN b = true)
  | f4 (a b c : Int) (h : e = ⟨4, a, b, c⟩) (h0 : okN a = true) (h1 : okN b = true) (h2 : okN c = true)
  | f5 (a b : Int) (h : e = ⟨5, a, b, 0⟩) (h0 : 1 ≤ a) (h1 : a ≤ 3) (h2 : okN a = true) (h3 : okN b = true)
  | f6 (a : Int) (h : e = ⟨6, a, 0, 0⟩) (h0 : okN a = true)
  | f6d (a : Int) (h : e = ⟨6, a, 1, 0⟩) (h0 : okN a = true)
theorem form {e : Ev} (hc : chkE e = 0) (ht : tidy e) : Form e := by
  obtain ⟨k, a, b, c⟩ := e
  obtain ⟨t1, t2⟩ := ht
  simp only at t1 t2
  have hk : ¬ (k < 1 ∨ 6 < k) := fun h => by rw [chkE, if_pos h] at hc; omega
  have hall : (pat ⟨k, a, b, c⟩).all (okIt ⟨k, a, b, c⟩) = true := by
    rw [chkE, if_neg hk] at hc
    cases h : (pat ⟨k, a, b, c⟩).all (okIt ⟨k, a, b, c⟩) with
    | true => rfl
    | false => rw [if_pos h] at hc; omega
  have hr : ¬ ((k = 5 ∧ (a < 1 ∨ 3 < a)) ∨ (k = 6 ∧ (b < 0 ∨ 1 < b))) := fun h => by
    rw [chkE, if_neg hk, if_neg (by rw [hall]; decide), if_pos h] at hc
    omega
  rcases t2 with rfl | rfl | rfl | rfl | rfl | rfl
  · by_cases h : c = -1
    · subst h
      simp [pat, okIt, fld] at hall
      exact .f2d a b rfl hall.1 hall.2
    · simp [pat, okIt, fld, h] at hall
      exact .f2 a b c rfl h hall.1 hall.2.1 hall.2.2
  · simp [pat, okIt, fld] at hall
    exact .f4 a b c rfl hall.1 hall.2.1 hall.2.2
  · obtain rfl : c = 0 := t1 (by decide) (by decide)
    simp [pat, okIt, fld] at hall
    exact .f1 a b rfl hall.1 hall.2
  · obtain rfl : c = 0 := t1 (by decide) (by decide)
    simp [pat, okIt, fld] at hall
    exact .f3 a b rfl hall.1 hall.2
  · obtain rfl : c = 0 := t1 (by decide) (by decide)
    simp [pat, okIt, fld] at hall
    exact .f5 a b rfl (by omega) (by omega) hall.1 hall.2
  · obtain rfl : c = 0 := t1 (by decide) (by decide)
    have hb : b = 0 ∨ b = 1 := by omega
    rcases hb with rfl | rfl
    · simp [pat, okIt, fld] at hall
      exact .f6 a rfl hall
    · simp [pat, okIt, fld] at hall
      exact .f6d a rfl hall
theorem wds1 (a b : Int) : wdsE ⟨1, a, b, 0⟩ = [wPacket, dgs 9 a.toNat, wSent, wBy, wHost, dgs 9 b.toNat] := by simp [wdsE, pat, wd, fld]
theorem wds2 (a b c : Int) (h : c ≠ -1) : wdsE ⟨2, a, b, c⟩ = [wPacket, dgs 9 a.toNat, wAt, wSwitch, dgs 9 b.toNat, wTo, wPort, dgs 9 c.toNat] := by simp [wdsE, pat, wd, fld, h]
theorem wds2d (a b : Int) : wdsE ⟨2, a, b, -1⟩ = [wPacket, dgs 9 a.toNat, wAt, wSwitch, dgs 9 b.toNat, wDropped] := by simp [wdsE, pat, wd, fld]
theorem wds3 (a b : Int) : wdsE ⟨3, a, b, 0⟩ = [wPacket, dgs 9 a.toNat, wDelivered, wTo, wHost, dgs 9 b.toNat] := by simp [wdsE, pat, wd, fld]
theorem wds4 (a b c : Int) : wdsE ⟨4, a, b, c⟩ = [wPacket, dgs 9 a.toNat, wLost, wAt, wSwitch, dgs 9 b.toNat, wPort, dgs 9 c.toNat] := by simp [wdsE, pat, wd, fld]
theorem wds5 (a b : Int) : wdsE ⟨5, a, b, 0⟩ = [wPhase, dgs 9 a.toNat, wStep, dgs 9 b.toNat] := by simp [wdsE, pat, wd, fld]
theorem wds6 (a : Int) : wdsE ⟨6, a, 0, 0⟩ = [wLink, dgs 9 a.toNat, wUp] := by simp [wdsE, pat, wd, fld]
theorem wds6d (a : Int) : wdsE ⟨6, a, 1, 0⟩ = [wLink, dgs 9 a.toNat, wDown] := by simp [wdsE, pat, wd, fld]
theorem wds_inj {e x : Ev} (he : chkE e = 0) (te : tidy e) (hx : chkE x = 0) (tx : tidy x) (h : wdsE e = wdsE x) : e = x := by
  rcases form he te with ⟨a, b, rfl, p0, p1⟩ | ⟨a, b, c, rfl, p0, p1, p2, p3⟩ | ⟨a, b, rfl, p0, p1⟩ | ⟨a, b, rfl, p0, p1⟩ | ⟨a, b, c, rfl, p0, p1, p2⟩ | ⟨a, b, rfl, p0, p1, p2, p3⟩ | ⟨a, rfl, p0⟩ | ⟨a, rfl, p0⟩
  · rw [wds1 a b] at h
    rcases form hx tx with ⟨a', b', rfl, q0, q1⟩ | ⟨a', b', c', rfl, q0, q1, q2, q3⟩ | ⟨a', b', rfl, q0, q1⟩ | ⟨a', b', rfl, q0, q1⟩ | ⟨a', b', c', rfl, q0, q1, q2⟩ | ⟨a', b', rfl, q0, q1, q2, q3⟩ | ⟨a', rfl, q0⟩ | ⟨a', rfl, q0⟩
    · rw [wds1 a' b'] at h
      simp only [List.cons.injEq, true_and, and_true] at h
      obtain rfl : a = a' := okN_inj p0 q0 h.1
      obtain rfl : b = b' := okN_inj p1 q1 h.2
      rfl
    · rw [wds2 a' b' c' q0] at h
      simp [wPacket, wSent, wBy, wHost, wAt, wSwitch, wTo, wPort, wDropped, wDelivered, wLost, wPhase, wStep, wLink, wUp, wDown] at h
    · rw [wds2d a' b'] at h
      simp [wPacket, wSent, wBy, wHost, wAt, wSwitch, wTo, wPort, wDropped, wDelivered, wLost, wPhase, wStep, wLink, wUp, wDown] at h
    · rw [wds3 a' b'] at h
      simp [wPacket, wSent, wBy, wHost, wAt, wSwitch, wTo, wPort, wDropped, wDelivered, wLost, wPhase, wStep, wLink, wUp, wDown] at h
    · rw [wds4 a' b' c'] at h
      simp [wPacket, wSent, wBy, wHost, wAt, wSwitch, wTo, wPort, wDropped, wDelivered, wLost, wPhase, wStep, wLink, wUp, wDown] at h
    · rw [wds5 a' b'] at h
      simp [wPacket, wSent, wBy, wHost, wAt, wSwitch, wTo, wPort, wDropped, wDelivered, wLost, wPhase, wStep, wLink, wUp, wDown] at h
    · rw [wds6 a'] at h
      simp [wPacket, wSent, wBy, wHost, wAt, wSwitch, wTo, wPort, wDropped, wDelivered, wLost, wPhase, wStep, wLink, wUp, wDown] at h
    · rw [wds6d a'] at h
      simp [wPacket, wSent, wBy, wHost, wAt, wSwitch, wTo, wPort, wDropped, wDelivered, wLost, wPhase, wStep, wLink, wUp, wDown] at h
  · rw [wds2 a b c p0] at h
    rcases form hx tx with ⟨a', b', rfl, q0, q1⟩ | ⟨a', b', c', rfl, q0, q1, q2, q3⟩ | ⟨a', b', rfl, q0, q1⟩ | ⟨a', b', rfl, q0, q1⟩ | ⟨a', b', c', rfl, q0, q1, q2⟩ | ⟨a', b', rfl, q0, q1, q2, q3⟩ | ⟨a', rfl, q0⟩ | ⟨a', rfl, q0⟩
    · rw [wds1 a' b'] at h
      simp [wPacket, wSent, wBy, wHost, wAt, wSwitch, wTo, wPort, wDropped, wDelivered, wLost, wPhase, wStep, wLink, wUp, wDown] at h
    · rw [wds2 a' b' c' q0] at h
      simp only [List.cons.injEq, true_and, and_true] at h
      obtain rfl : a = a' := okN_inj p1 q1 h.1
      obtain rfl : b = b' := okN_inj p2 q2 h.2.1
      obtain rfl : c = c' := okN_inj p3 q3 h.2.2
      rfl
    · rw [wds2d a' b'] at h
      simp [wPacket, wSent, wBy, wHost, wAt, wSwitch, wTo, wPort, wDropped, wDelivered, wLost, wPhase, wStep, wLink, wUp, wDown] at h
    · rw [wds3 a' b'] at h
      simp [wPacket, wSent, wBy, wHost, wAt, wSwitch, wTo, wPort, wDropped, wDelivered, wLost, wPhase, wStep, wLink, wUp, wDown] at h
    · rw [wds4 a' b' c'] at h
      simp [wPacket, wSent, wBy, wHost, wAt, wSwitch, wTo, wPort, wDropped, wDelivered, wLost, wPhase, wStep, wLink, wUp, wDown] at h
    · rw [wds5 a' b'] at h
      simp [wPacket, wSent, wBy, wHost, wAt, wSwitch, wTo, wPort, wDropped, wDelivered, wLost, wPhase, wStep, wLink, wUp, wDown] at h
    · rw [wds6 a'] at h
      simp [wPacket, wSent, wBy, wHost, wAt, wSwitch, wTo, wPort, wDropped, wDelivered, wLost, wPhase, wStep, wLink, wUp, wDown] at h
    · rw [wds6d a'] at h
      simp [wPacket, wSent, wBy, wHost, wAt, wSwitch, wTo, wPort, wDropped, wDelivered, wLost, wPhase, wStep, wLink, wUp, wDown] at h
  · rw [wds2d a b] at h
    rcases form hx tx with ⟨a', b', rfl, q0, q1⟩ | ⟨a', b', c', rfl, q0, q1, q2, q3⟩ | ⟨a', b', rfl, q0, q1⟩ | ⟨a', b', rfl, q0, q1⟩ | ⟨a', b', c', rfl, q0, q1, q2⟩ | ⟨a', b', rfl, q0, q1, q2, q3⟩ | ⟨a', rfl, q0⟩ | ⟨a', rfl, q0⟩
    · rw [wds1 a' b'] at h
      simp [wPacket, wSent, wBy, wHost, wAt, wSwitch, wTo, wPort, wDropped, wDelivered, wLost, wPhase, wStep, wLink, wUp, wDown] at h
    · rw [wds2 a' b' c' q0] at h
      simp [wPacket, wSent, wBy, wHost, wAt, wSwitch, wTo, wPort, wDropped, wDelivered, wLost, wPhase, wStep, wLink, wUp, wDown] at h
    · rw [wds2d a' b'] at h
      simp only [List.cons.injEq, true_and, and_true] at h
      obtain rfl : a = a' := okN_inj p0 q0 h.1
      obtain rfl : b = b' := okN_inj p1 q1 h.2
      rfl
    · rw [wds3 a' b'] at h
      simp [wPacket, wSent, wBy, wHost, wAt, wSwitch, wTo, wPort, wDropped, wDelivered, wLost, wPhase, wStep, wLink, wUp, wDown] at h
    · rw [wds4 a' b' c'] at h
      simp [wPacket, wSent, wBy, wHost, wAt, wSwitch, wTo, wPort, wDropped, wDelivered, wLost, wPhase, wStep, wLink, wUp, wDown] at h
    · rw [wds5 a' b'] at h
      simp [wPacket, wSent, wBy, wHost, wAt, wSwitch, wTo, wPort, wDropped, wDelivered, wLost, wPhase, wStep, wLink, wUp, wDown] at h
    · rw [wds6 a'] at h
      simp [wPacket, wSent, wBy, wHost, wAt, wSwitch, wTo, wPort, wDropped, wDelivered, wLost, wPhase, wStep, wLink, wUp, wDown] at h
    · rw [wds6d a'] at h
      simp [wPacket, wSent, wBy, wHost, wAt, wSwitch, wTo, wPort, wDropped, wDelivered, wLost, wPhase, wStep, wLink, wUp, wDown] at h
  · rw [wds3 a b] at h
    rcases form hx tx with ⟨a', b', rfl, q0, q1⟩ | ⟨a', b', c', rfl, q0, q1, q2, q3⟩ | ⟨a', b', rfl, q0, q1⟩ | ⟨a', b', rfl, q0, q1⟩ | ⟨a', b', c', rfl, q0, q1, q2⟩ | ⟨a', b', rfl, q0, q1, q2, q3⟩ | ⟨a', rfl, q0⟩ | ⟨a', rfl, q0⟩
    · rw [wds1 a' b'] at h
      simp [wPacket, wSent, wBy, wHost, wAt, wSwitch, wTo, wPort, wDropped, wDelivered, wLost, wPhase, wStep, wLink, wUp, wDown] at h
    · rw [wds2 a' b' c' q0] at h
      simp [wPacket, wSent, wBy, wHost, wAt, wSwitch, wTo, wPort, wDropped, wDelivered, wLost, wPhase, wStep, wLink, wUp, wDown] at h
    · rw [wds2d a' b'] at h
      simp [wPacket, wSent, wBy, wHost, wAt, wSwitch, wTo, wPort, wDropped, wDelivered, wLost, wPhase, wStep, wLink, wUp, wDown] at h
    · rw [wds3 a' b'] at h
      simp only [List.cons.injEq, true_and, and_true] at h
      obtain rfl : a = a' := okN_inj p0 q0 h.1
      obtain rfl : b = b' := okN_inj p1 q1 h.2
      rfl
    · rw [wds4 a' b' c'] at h
      simp [wPacket, wSent, wBy, wHost, wAt, wSwitch, wTo, wPort, wDropped, wDelivered, wLost, wPhase, wStep, wLink, wUp, wDown] at h
    · rw [wds5 a' b'] at h
      simp [wPacket, wSent, wBy, wHost, wAt, wSwitch, wTo, wPort, wDropped, wDelivered, wLost, wPhase, wStep, wLink, wUp, wDown] at h
    · rw [wds6 a'] at h
      simp [wPacket, wSent, wBy, wHost, wAt, wSwitch, wTo, wPort, wDropped, wDelivered, wLost, wPhase, wStep, wLink, wUp, wDown] at h
    · rw [wds6d a'] at h
      simp [wPacket, wSent, wBy, wHost, wAt, wSwitch, wTo, wPort, wDropped, wDelivered, wLost, wPhase, wStep, wLink, wUp, wDown] at h
  · rw [wds4 a b c] at h
    rcases form hx tx with ⟨a', b', rfl, q0, q1⟩ | ⟨a', b', c', rfl, q0, q1, q2, q3⟩ | ⟨a', b', rfl, q0, q1⟩ | ⟨a', b', rfl, q0, q1⟩ | ⟨a', b', c', rfl, q0, q1, q2⟩ | ⟨a', b', rfl, q0, q1, q2, q3⟩ | ⟨a', rfl, q0⟩ | ⟨a', rfl, q0⟩
    · rw [wds1 a' b'] at h
      simp [wPacket, wSent, wBy, wHost, wAt, wSwitch, wTo, wPort, wDropped, wDelivered, wLost, wPhase, wStep, wLink, wUp, wDown] at h
    · rw [wds2 a' b' c' q0] at h
      simp [wPacket, wSent, wBy, wHost, wAt, wSwitch, wTo, wPort, wDropped, wDelivered, wLost, wPhase, wStep, wLink, wUp, wDown] at h
    · rw [wds2d a' b'] at h
      simp [wPacket, wSent, wBy, wHost, wAt, wSwitch, wTo, wPort, wDropped, wDelivered, wLost, wPhase, wStep, wLink, wUp, wDown] at h
    · rw [wds3 a' b'] at h
      simp [wPacket, wSent, wBy, wHost, wAt, wSwitch, wTo, wPort, wDropped, wDelivered, wLost, wPhase, wStep, wLink, wUp, wDown] at h
    · rw [wds4 a' b' c'] at h
      simp only [List.cons.injEq, true_and, and_true] at h
      obtain rfl : a = a' := okN_inj p0 q0 h.1
      obtain rfl : b = b' := okN_inj p1 q1 h.2.1
      obtain rfl : c = c' := okN_inj p2 q2 h.2.2
      rfl
    · rw [wds5 a' b'] at h
      simp [wPacket, wSent, wBy, wHost, wAt, wSwitch, wTo, wPort, wDropped, wDelivered, wLost, wPhase, wStep, wLink, wUp, wDown] at h
    · rw [wds6 a'] at h
      simp [wPacket, wSent, wBy, wHost, wAt, wSwitch, wTo, wPort, wDropped, wDelivered, wLost, wPhase, wStep, wLink, wUp, wDown] at h
    · rw [wds6d a'] at h
      simp [wPacket, wSent, wBy, wHost, wAt, wSwitch, wTo, wPort, wDropped, wDelivered, wLost, wPhase, wStep, wLink, wUp, wDown] at h
  · rw [wds5 a b] at h
    rcases form hx tx with ⟨a', b', rfl, q0, q1⟩ | ⟨a', b', c', rfl, q0, q1, q2, q3⟩ | ⟨a', b', rfl, q0, q1⟩ | ⟨a', b', rfl, q0, q1⟩ | ⟨a', b', c', rfl, q0, q1, q2⟩ | ⟨a', b', rfl, q0, q1, q2, q3⟩ | ⟨a', rfl, q0⟩ | ⟨a', rfl, q0⟩
    · rw [wds1 a' b'] at h
      simp [wPacket, wSent, wBy, wHost, wAt, wSwitch, wTo, wPort, wDropped, wDelivered, wLost, wPhase, wStep, wLink, wUp, wDown] at h
    · rw [wds2 a' b' c' q0] at h
      simp [wPacket, wSent, wBy, wHost, wAt, wSwitch, wTo, wPort, wDropped, wDelivered, wLost, wPhase, wStep, wLink, wUp, wDown] at h
    · rw [wds2d a' b'] at h
      simp [wPacket, wSent, wBy, wHost, wAt, wSwitch, wTo, wPort, wDropped, wDelivered, wLost, wPhase, wStep, wLink, wUp, wDown] at h
    · rw [wds3 a' b'] at h
      simp [wPacket, wSent, wBy, wHost, wAt, wSwitch, wTo, wPort, wDropped, wDelivered, wLost, wPhase, wStep, wLink, wUp, wDown] at h
    · rw [wds4 a' b' c'] at h
      simp [wPacket, wSent, wBy, wHost, wAt, wSwitch, wTo, wPort, wDropped, wDelivered, wLost, wPhase, wStep, wLink, wUp, wDown] at h
    · rw [wds5 a' b'] at h
      simp only [List.cons.injEq, true_and, and_true] at h
      obtain rfl : a = a' := okN_inj p2 q2 h.1
      obtain rfl : b = b' := okN_inj p3 q3 h.2
      rfl
    · rw [wds6 a'] at h
      simp [wPacket, wSent, wBy, wHost, wAt, wSwitch, wTo, wPort, wDropped, wDelivered, wLost, wPhase, wStep, wLink, wUp, wDown] at h
    · rw [wds6d a'] at h
      simp [wPacket, wSent, wBy, wHost, wAt, wSwitch, wTo, wPort, wDropped, wDelivered, wLost, wPhase, wStep, wLink, wUp, wDown] at h
  · rw [wds6 a] at h
    rcases form hx tx with ⟨a', b', rfl, q0, q1⟩ | ⟨a', b', c', rfl, q0, q1, q2, q3⟩ | ⟨a', b', rfl, q0, q1⟩ | ⟨a', b', rfl, q0, q1⟩ | ⟨a', b', c', rfl, q0, q1, q2⟩ | ⟨a', b', rfl, q0, q1, q2, q3⟩ | ⟨a', rfl, q0⟩ | ⟨a', rfl, q0⟩
    · rw [wds1 a' b'] at h
      simp [wPacket, wSent, wBy, wHost, wAt, wSwitch, wTo, wPort, wDropped, wDelivered, wLost, wPhase, wStep, wLink, wUp, wDown] at h
    · rw [wds2 a' b' c' q0] at h
      simp [wPacket, wSent, wBy, wHost, wAt, wSwitch, wTo, wPort, wDropped, wDelivered, wLost, wPhase, wStep, wLink, wUp, wDown] at h
    · rw [wds2d a' b'] at h
      simp [wPacket, wSent, wBy, wHost, wAt, wSwitch, wTo, wPort, wDropped, wDelivered, wLost, wPhase, wStep, wLink, wUp, wDown] at h
    · rw [wds3 a' b'] at h
      simp [wPacket, wSent, wBy, wHost, wAt, wSwitch, wTo, wPort, wDropped, wDelivered, wLost, wPhase, wStep, wLink, wUp, wDown] at h
    · rw [wds4 a' b' c'] at h
      simp [wPacket, wSent, wBy, wHost, wAt, wSwitch, wTo, wPort, wDropped, wDelivered, wLost, wPhase, wStep, wLink, wUp, wDown] at h
    · rw [wds5 a' b'] at h
      simp [wPacket, wSent, wBy, wHost, wAt, wSwitch, wTo, wPort, wDropped, wDelivered, wLost, wPhase, wStep, wLink, wUp, wDown] at h
    · rw [wds6 a'] at h
      simp only [List.cons.injEq, true_and, and_true] at h
      obtain rfl : a = a' := okN_inj p0 q0 h
      rfl
    · rw [wds6d a'] at h
      simp [wPacket, wSent, wBy, wHost, wAt, wSwitch, wTo, wPort, wDropped, wDelivered, wLost, wPhase, wStep, wLink, wUp, wDown] at h
  · rw [wds6d a] at h
    rcases form hx tx with ⟨a', b', rfl, q0, q1⟩ | ⟨a', b', c', rfl, q0, q1, q2, q3⟩ | ⟨a', b', rfl, q0, q1⟩ | ⟨a', b', rfl, q0, q1⟩ | ⟨a', b', c', rfl, q0, q1, q2⟩ | ⟨a', b', rfl, q0, q1, q2, q3⟩ | ⟨a', rfl, q0⟩ | ⟨a', rfl, q0⟩
    · rw [wds1 a' b'] at h
      simp [wPacket, wSent, wBy, wHost, wAt, wSwitch, wTo, wPort, wDropped, wDelivered, wLost, wPhase, wStep, wLink, wUp, wDown] at h
    · rw [wds2 a' b' c' q0] at h
      simp [wPacket, wSent, wBy, wHost, wAt, wSwitch, wTo, wPort, wDropped, wDelivered, wLost, wPhase, wStep, wLink, wUp, wDown] at h
    · rw [wds2d a' b'] at h
      simp [wPacket, wSent, wBy, wHost, wAt, wSwitch, wTo, wPort, wDropped, wDelivered, wLost, wPhase, wStep, wLink, wUp, wDown] at h
    · rw [wds3 a' b'] at h
      simp [wPacket, wSent, wBy, wHost, wAt, wSwitch, wTo, wPort, wDropped, wDelivered, wLost, wPhase, wStep, wLink, wUp, wDown] at h
    · rw [wds4 a' b' c'] at h
      simp [wPacket, wSent, wBy, wHost, wAt, wSwitch, wTo, wPort, wDropped, wDelivered, wLost, wPhase, wStep, wLink, wUp, wDown] at h
    · rw [wds5 a' b'] at h
      simp [wPacket, wSent, wBy, wHost, wAt, wSwitch, wTo, wPort, wDropped, wDelivered, wLost, wPhase, wStep, wLink, wUp, wDown] at h
    · rw [wds6 a'] at h
      simp [wPacket, wSent, wBy, wHost, wAt, wSwitch, wTo, wPort, wDropped, wDelivered, wLost, wPhase, wStep, wLink, wUp, wDown] at h
    · rw [wds6d a'] at h
      simp only [List.cons.injEq, true_and, and_true] at h
      obtain rfl : a = a' := okN_inj p0 q0 h
      rfl
theorem mres_ok {e e0 : Ev} {L : List (List UInt8)} (h : mres e0 L = (e, true)) (hc : chkE e = 0) : tryE L e0 = some e := by
  rw [tryE, h, if_pos ⟨rfl, hc⟩]
theorem step_w {t : List UInt8} {ps : List It} {ws : List (List UInt8)} {e : Ev} {r : Ev × Bool} (hn : ¬ ((parseI t).2 = true ∧ 0 ≤ (parseI t).1)) (h : mtch ps ws e = r) : mtch (.w t :: ps) (t :: ws) e = r := by
  rw [mtch, if_pos ⟨hn, rfl⟩, h]
theorem step_f {n : Int} {i : Nat} {ps : List It} {ws : List (List UInt8)} {e : Ev} {r : Ev × Bool} (hn : okN n = true) (h : mtch ps ws (setF e i n) = r) : mtch (.f i :: ps) (dgs 9 n.toNat :: ws) e = r := by
  obtain ⟨h1, h2⟩ := isN_dgs hn
  have h1' : (parseI (dgs 9 n.toNat)).2 = true ∧ 0 ≤ (parseI (dgs 9 n.toNat)).1 := h1
  rw [mtch, if_pos h1', h2, h]
theorem pat1 : pat ⟨1, 0, 0, 0⟩ = [.w wPacket, .f 1, .w wSent, .w wBy, .w wHost, .f 2] := by simp [pat]
theorem pat2 : pat ⟨2, 0, 0, 0⟩ = [.w wPacket, .f 1, .w wAt, .w wSwitch, .f 2, .w wTo, .w wPort, .f 3] := by simp [pat]
theorem pat2d : pat ⟨2, 0, 0, -1⟩ = [.w wPacket, .f 1, .w wAt, .w wSwitch, .f 2, .w wDropped] := by simp [pat]
theorem pat3 : pat ⟨3, 0, 0, 0⟩ = [.w wPacket, .f 1, .w wDelivered, .w wTo, .w wHost, .f 2] := by simp [pat]
theorem pat4 : pat ⟨4, 0, 0, 0⟩ = [.w wPacket, .f 1, .w wLost, .w wAt, .w wSwitch, .f 2, .w wPort, .f 3] := by simp [pat]
theorem pat5 : pat ⟨5, 0, 0, 0⟩ = [.w wPhase, .f 1, .w wStep, .f 2] := by simp [pat]
theorem pat6 : pat ⟨6, 0, 0, 0⟩ = [.w wLink, .f 1, .w wUp] := by simp [pat]
theorem pat6d : pat ⟨6, 0, 1, 0⟩ = [.w wLink, .f 1, .w wDown] := by simp [pat]
theorem try_ok {e : Ev} (hc : chkE e = 0) (ht : tidy e) : ∃ e0 ∈ cands, tryE (wdsE e) e0 = some e := by
  rcases form hc ht with ⟨a, b, rfl, p0, p1⟩ | ⟨a, b, c, rfl, p0, p1, p2, p3⟩ | ⟨a, b, rfl, p0, p1⟩ | ⟨a, b, rfl, p0, p1⟩ | ⟨a, b, c, rfl, p0, p1, p2⟩ | ⟨a, b, rfl, p0, p1, p2, p3⟩ | ⟨a, rfl, p0⟩ | ⟨a, rfl, p0⟩
  · refine ⟨⟨1, 0, 0, 0⟩, by simp [cands], mres_ok ?_ hc⟩
    rw [wds1 a b, mres, pat1, if_pos (by simp only [List.length_cons, List.length_nil])]
    exact (step_w nwPacket (step_f p0 (step_w nwSent (step_w nwBy (step_w nwHost (step_f p1 (by simp only [mtch, setF])))))))
  · refine ⟨⟨2, 0, 0, 0⟩, by simp [cands], mres_ok ?_ hc⟩
    rw [wds2 a b c p0, mres, pat2, if_pos (by simp only [List.length_cons, List.length_nil])]
    exact (step_w nwPacket (step_f p1 (step_w nwAt (step_w nwSwitch (step_f p2 (step_w nwTo (step_w nwPort (step_f p3 (by simp only [mtch, setF])))))))))
  · refine ⟨⟨2, 0, 0, -1⟩, by simp [cands], mres_ok ?_ hc⟩
    rw [wds2d a b, mres, pat2d, if_pos (by simp only [List.length_cons, List.length_nil])]
    exact (step_w nwPacket (step_f p0 (step_w nwAt (step_w nwSwitch (step_f p1 (step_w nwDropped (by simp only [mtch, setF])))))))
  · refine ⟨⟨3, 0, 0, 0⟩, by simp [cands], mres_ok ?_ hc⟩
    rw [wds3 a b, mres, pat3, if_pos (by simp only [List.length_cons, List.length_nil])]
    exact (step_w nwPacket (step_f p0 (step_w nwDelivered (step_w nwTo (step_w nwHost (step_f p1 (by simp only [mtch, setF])))))))
  · refine ⟨⟨4, 0, 0, 0⟩, by simp [cands], mres_ok ?_ hc⟩
    rw [wds4 a b c, mres, pat4, if_pos (by simp only [List.length_cons, List.length_nil])]
    exact (step_w nwPacket (step_f p0 (step_w nwLost (step_w nwAt (step_w nwSwitch (step_f p1 (step_w nwPort (step_f p2 (by simp only [mtch, setF])))))))))
  · refine ⟨⟨5, 0, 0, 0⟩, by simp [cands], mres_ok ?_ hc⟩
    rw [wds5 a b, mres, pat5, if_pos (by simp only [List.length_cons, List.length_nil])]
    exact (step_w nwPhase (step_f p2 (step_w nwStep (step_f p3 (by simp only [mtch, setF])))))
  · refine ⟨⟨6, 0, 0, 0⟩, by simp [cands], mres_ok ?_ hc⟩
    rw [wds6 a, mres, pat6, if_pos (by simp only [List.length_cons, List.length_nil])]
    exact (step_w nwLink (step_f p0 (step_w nwUp (by simp only [mtch, setF]))))
  · refine ⟨⟨6, 0, 1, 0⟩, by simp [cands], mres_ok ?_ hc⟩
    rw [wds6d a, mres, pat6d, if_pos (by simp only [List.length_cons, List.length_nil])]
    exact (step_w nwLink (step_f p0 (step_w nwDown (by simp only [mtch, setF]))))
/-- the words of an event's line -/
theorem par_words {s : List UInt8} {e : Ev} (hc : chkE e = 0) (ht : tidy e) (hs : lineE e = s) : spl s = wdsE e := by
  have wd_sp : ∀ {x : Ev}, chkE x = 0 → tidy x → ∀ w ∈ wdsE x, ∀ c ∈ w, c ≠ 32 := by
    intro x hx tx w hw c hc
    have hd : ∀ n : Nat, c ∈ dgs 9 n → c ≠ 32 := fun n h => by
      have := dgs_dig 9 n c h
      rintro rfl
      revert this
      decide
    have hm : ∀ it ∈ pat x, ∀ c ∈ wd x it, c ≠ 32 := by
      intro it hit c hc
      cases it with
      | f i =>
        have := dgs_dig 9 _ c hc
        rintro rfl
        revert this
        decide
      | w t =>
        have ht : t ∈ ([wPacket, wSent, wBy, wHost, wAt, wSwitch, wTo, wPort, wDropped, wDelivered, wLost, wPhase, wStep, wLink, wUp, wDown] : List (List UInt8)) := by
          unfold pat at hit
          repeat' split at hit
          all_goals simp at hit
          all_goals simp
          all_goals rcases hit with rfl | rfl | rfl | rfl | rfl | rfl <;> simp
        have hall : ∀ t ∈ ([wPacket, wSent, wBy, wHost, wAt, wSwitch, wTo, wPort, wDropped, wDelivered, wLost, wPhase, wStep, wLink, wUp, wDown] : List (List UInt8)), ∀ c ∈ t, c ≠ 32 := by decide +kernel
        exact hall t ht c hc
    obtain ⟨it, h1, rfl⟩ := List.mem_map.1 hw
    exact hm it h1 c hc
  have pne : ∀ {x : Ev}, chkE x = 0 → tidy x → wdsE x ≠ [] := by
    intro x hx tx
    rcases form hx tx with ⟨_, _, rfl, p0, p1⟩ | ⟨_, _, _, rfl, p0, p1, p2, p3⟩ | ⟨_, _, rfl, p0, p1⟩ | ⟨_, _, rfl, p0, p1⟩ | ⟨_, _, _, rfl, p0, p1, p2⟩ | ⟨_, _, rfl, p0, p1, p2, p3⟩ | ⟨_, rfl, p0⟩ | ⟨_, rfl, p0⟩
    all_goals simp [wdsE, pat]
    all_goals (split <;> simp)
  subst hs
  exact spl_jnw (wdsE e) (pne hc ht) (wd_sp hc ht)
/-- the line's event -/
theorem par_iff {s : List UInt8} {e : Ev} : parE (spl s) = some e ↔ chkE e = 0 ∧ tidy e ∧ lineE e = s := by
  constructor
  · intro h
    rw [parE] at h
    obtain ⟨e0, h1, h2⟩ := List.exists_of_findSome?_eq_some h
    obtain ⟨a, b, c⟩ := try_sound h1 h2
    refine ⟨a, b, ?_⟩
    have : lineE e = jnw (wdsE e) := rfl
    rw [this, ← c, jnw_spl]
  · rintro ⟨hc, ht, rfl⟩
    have e1 : spl (lineE e) = wdsE e := par_words hc ht rfl
    rw [e1]
    obtain ⟨e0, h1, h2⟩ := try_ok hc ht
    cases h : parE (wdsE e) with
    | none =>
      rw [parE, List.findSome?_eq_none_iff] at h
      rw [h e0 h1] at h2
      cases h2
    | some x =>
      rw [parE] at h
      obtain ⟨e1, h3, h4⟩ := List.exists_of_findSome?_eq_some h
      obtain ⟨a, b, c⟩ := try_sound h3 h4
      rw [wds_inj hc ht a b c]
end Go.Proofs.YtafongdfnpnneaaGreatDoor

/- Chapter 53: a line read, by the program. -/
set_option maxRecDepth 100000
set_option maxHeartbeats 4000000
set_option linter.all false
namespace Go.Proofs.YtafongdfnpnneaaGreatDoor
open Go.Vm

def encEO (r : Option Ev) : V := match r with
  | some e => .tup [agE e, .bool true]
  | none => .tup [agE ⟨0, 0, 0, 0⟩, .bool false]
theorem bel_encEO {n : Nat} (r : Option Ev) : (encEO r).bel n = true := by cases r <;> rfl
def itemsV (L : List (List UInt8)) : V := .sl false (L.map itV) L.length
theorem bel_items {n : Nat} (L : List (List UInt8)) : (itemsV L).bel n = true := by rw [itemsV, bel_sl]; exact bel_itV L
theorem st_items (L : List (List UInt8)) : (itemsV L).st = itemsV L := rfl
theorem os_items {g : Bool} {L : List (List UInt8)} {xs : List V} {p : Prop} : optSide g (itemsV L :: xs) p = optSide g xs p := rfl
theorem st_rn {q : Nat → Nat} (e : Ev) : ((slP e).rn q).st = (slP e).rn q := rfl
theorem os_rn {g : Bool} {q : Nat → Nat} {e : Ev} {xs : List V} {p : Prop} : optSide g ((slP e).rn q :: xs) p = optSide g xs p := rfl
theorem rns_items {q : Nat → Nat} (L : List (List UInt8)) (e : Ev) : rns q [itemsV L, slP e] = [itemsV L, (slP e).rn q] := by
  have h : (itemsV L).rn q = itemsV L := V.rn_bel _ (by rw [itemsV, bel_sl]; exact bel_itV L)
  rw [rns, rns, rns, h]
def cand (k i : Nat) : Ev := ⟨k, 0, if k = 6 ∧ i = 1 then 1 else 0, if k = 2 ∧ i = 1 then -1 else 0⟩
theorem cands_at (k i : Nat) (hk : k < 6) (hi : i < 2) : cands[2 * k + i]? = some (cand (k + 1) i) := by
  have key : ∀ (a : Fin 6) (b : Fin 2), cands[2 * a.val + b.val]? = some (cand (a.val + 1) b.val) := by decide +kernel
  exact key ⟨k, hk⟩ ⟨i, hi⟩
theorem find_step {L : List (List UInt8)} {m : Nat} {e : Ev} (h : cands[m]? = some e) (h0 : (cands.take m).findSome? (tryE L) = none) :
    (tryE L e = none → (cands.take (m + 1)).findSome? (tryE L) = none) ∧ (∀ x, tryE L e = some x → parE L = some x) := by
  have hm : m < cands.length := (List.getElem?_eq_some_iff.1 h).1
  have e1 : cands.take (m + 1) = cands.take m ++ [e] := by rw [List.take_add_one, h]; rfl
  constructor
  · intro h1
    rw [e1, List.findSome?_append, h0]
    simp [h1]
  · intro x hx
    have : cands = cands.take (m + 1) ++ cands.drop (m + 1) := (List.take_append_drop _ _).symm
    rw [parE, this, e1, List.append_assoc, List.findSome?_append, h0, List.findSome?_append]
    simp [hx]
theorem pc29 (s : List UInt8) (hs : s.length ≤ 20000) : PC Tryz.prog 29 [.str s] (encEO (parE (spl s))) := by
  have h43 := pc48 s hs
  have hln : (spl s).length ≤ 20001 := by
    have := spl_count s
    have : s.count 32 ≤ s.length := List.count_le_length
    omega
  generalize spl s = L at h43 hln ⊢
  have h43 : PC Tryz.prog 48 [.str s] (itemsV L) := h43
  refine PC.walk tok mixed cfg0 Tryz.func29 rfl Tryz.call29 (by simp [bel_encE, bel_strs, bel_itV, bel_itT, bel_agE, bel_items]) (bel_encEO _) ?_; simp (maxSteps := 2000000) -implicitDefEqProofs +contextual (disch := first | assumption | omega | decide +kernel) only [push_cast, ↓capI, br2_true, br2_false, frk_tt, frk_tf, frk_f, frkD_tt, frkD_tf, frkD_f, pk2_true, pk2_false, imp_true, seval, Nat.reduceLeDiff, Nat.reduceEqDiff, reduceCtorEq, ↓reduceIte, st_items, os_items, st_rn, os_rn, cfg0, encE, agE, getV_map, List.length_map, Nat.mul_one, Tryz.ntmps29]
  refine callO.pc h43 ?_
  simp (maxSteps := 2000000) -implicitDefEqProofs +contextual (disch := first | assumption | omega | decide +kernel) only [push_cast, ↓capI, br2_true, br2_false, frk_tt, frk_tf, frk_f, frkD_tt, frkD_tf, frkD_f, pk2_true, pk2_false, imp_true, seval, Nat.reduceLeDiff, Nat.reduceEqDiff, reduceCtorEq, ↓reduceIte, st_items, os_items, st_rn, os_rn, cfg0, encE, agE, getV_map, List.length_map, Nat.mul_one]
  refine T.lp tok mixed cfg0 (fun (k : Nat) => dd 2 (kp 1 (dd 1 (kp 1 (sv (.int .i64 ((k : Int) + 1)) (dd 38 (nl))))))) (fun H0 (k : Nat) => H0) (fun (k : Nat) => k ≤ 6 ∧ (cands.take (2 * k)).findSome? (tryE L) = none) (fun (k : Nat) => 6 - k) (0) ?_ ?_ ?_
  · exact ⟨by omega, rfl⟩
  · exact Gn.canon (J := _) (by first | rfl | (simp [List.append_nil]; done) | (simp [List.append_nil]; rfl)) (by simp [wk, putT, kp, dd, sv, nl]) (by simp [List.length_append]) (by simp [bel_encE, bel_strs, bel_itV, bel_itT, bel_agE, bel_items, kp, dd, sv, nl]) (by simp [bel_encE, bel_strs, bel_itV, bel_itT, bel_agE, bel_items])
  intro k ⟨hk, hn⟩
  by_cases hlt : k < 6
  case neg =>
    have hke : k = 6 := by omega
    subst hke
    have hnone : parE L = none := by rw [parE]; exact hn
    rw [hnone]
    simp (maxSteps := 2000000) -implicitDefEqProofs +contextual (disch := first | assumption | omega | decide +kernel) only [push_cast, ↓capI, br2_true, br2_false, frk_tt, frk_tf, frk_f, frkD_tt, frkD_tf, frkD_f, pk2_true, pk2_false, imp_true, seval, Nat.reduceLeDiff, Nat.reduceEqDiff, reduceCtorEq, ↓reduceIte, st_items, os_items, st_rn, os_rn, cfg0, encE, agE, getV_map, List.length_map, Nat.mul_one]
    refine endK.ret ?_ (by first | rfl | simp [bel_encE, bel_strs, bel_itV, bel_itT, bel_agE, bel_items]); simp [bel_encE, bel_strs, bel_itV, bel_itT, bel_agE, bel_items, fzs_ok, imp, lenOK_iff, List.take_of_length_le, evRes, getT, getO, setO, fzs, fz, fzH, Nat.beq, retV, Res.then, ldT, ldR, mkV, getV, tt_38, tt_103, st_items, os_items, st_rn, os_rn, cfg0, encE, agE, getV_map, List.length_map, Nat.mul_one, Tryz.f29,  encEO]
  have hle : ((k : Int) + 1) ≤ 6 := by omega
  simp (maxSteps := 2000000) -implicitDefEqProofs +contextual (disch := first | assumption | omega | decide +kernel) only [push_cast, ↓capI, br2_true, br2_false, frk_tt, frk_tf, frk_f, frkD_tt, frkD_tf, frkD_f, pk2_true, pk2_false, imp_true, seval, Nat.reduceLeDiff, Nat.reduceEqDiff, reduceCtorEq, ↓reduceIte, st_items, os_items, st_rn, os_rn, cfg0, encE, agE, getV_map, List.length_map, Nat.mul_one, hle]
  refine T.lp tok mixed cfg0 (fun (i : Nat) => dd 2 (kp 1 (dd 1 (kp 2 (dd 14 (kp 1 (sv (.int .i64 i) (dd 22 (nl))))))))) (fun H0 (i : Nat) => H0) (fun (i : Nat) => i ≤ 2 ∧ (cands.take (2 * k + i)).findSome? (tryE L) = none) (fun (i : Nat) => 2 - i) (0) ?_ ?_ ?_
  · exact ⟨by omega, hn⟩
  · exact Gn.canon (J := _) (by first | rfl | (simp [List.append_nil]; done) | (simp [List.append_nil]; rfl)) (by simp [wk, putT, kp, dd, sv, nl]) (by simp [List.length_append]) (by simp [bel_encE, bel_strs, bel_itV, bel_itT, bel_agE, bel_items, kp, dd, sv, nl]) (by simp [bel_encE, bel_strs, bel_itV, bel_itT, bel_agE, bel_items])
  intro i ⟨hi, hn⟩
  by_cases hlt2 : i < 2
  case neg =>
    have hie : i = 2 := by omega
    subst hie
    simp (maxSteps := 2000000) -implicitDefEqProofs +contextual (disch := first | assumption | omega | decide +kernel) only [push_cast, ↓capI, br2_true, br2_false, frk_tt, frk_tf, frk_f, frkD_tt, frkD_tf, frkD_f, pk2_true, pk2_false, imp_true, seval, Nat.reduceLeDiff, Nat.reduceEqDiff, reduceCtorEq, ↓reduceIte, st_items, os_items, st_rn, os_rn, cfg0, encE, agE, getV_map, List.length_map, Nat.mul_one]
    refine ⟨k + 1, ⟨by omega, hn⟩, by (try simp only); omega, ?_⟩
    exact Gn.canon (by first | rfl | (simp [List.append_nil]; done) | (simp [List.append_nil]; rfl)) (by simp [wk]) (by simp [List.length_append]) (by simp [bel_encE, bel_strs, bel_itV, bel_itT, bel_agE, bel_items]) (by simp [bel_encE, bel_strs, bel_itV, bel_itT, bel_agE, bel_items])
  have hc := cands_at k i hlt hlt2
  obtain ⟨f1, f2⟩ := find_step hc hn
  have g1 := g36 (cand (k + 1) i) (by simp [cand]; omega) (by simp [cand]; omega)
  have g2 := g44 (cand (k + 1) i) L hln
  have hr : tryE L (cand (k + 1) i) = if (mres (cand (k + 1) i) L).2 = true ∧ chkE (mres (cand (k + 1) i) L).1 = 0 then some (mres (cand (k + 1) i) L).1 else none := rfl
  generalize he0 : cand (k + 1) i = e0 at g1 g2 hr hc f1 f2
  have hek : e0.k = (k : Int) + 1 := by rw [← he0]; simp [cand]
  obtain ⟨k0, a0, b0, c0⟩ := e0
  simp only at hek
  have hcase : (a0 = 0) ∧ ((k = 1 ∧ i = 1 ∧ b0 = 0 ∧ c0 = -1) ∨ (k = 5 ∧ i = 1 ∧ b0 = 1 ∧ c0 = 0) ∨ (i = 1 ∧ k ≠ 1 ∧ k ≠ 5 ∧ b0 = 0 ∧ c0 = 0) ∨ (i = 0 ∧ b0 = 0 ∧ c0 = 0)) := by
    simp only [cand, Ev.mk.injEq] at he0
    obtain ⟨_, q1, q2, q3⟩ := he0
    refine ⟨q1.symm, ?_⟩
    subst q2
    subst q3
    have : i = 0 ∨ i = 1 := by omega
    rcases this with rfl | rfl
    · right; right; right
      simp
    · by_cases k1 : k = 1
      · left; simp [k1]
      · by_cases k5 : k = 5
        · right; left; simp [k5]
        · right; right; left
          simp [k1, k5]
  clear he0
  obtain ⟨rfl, hcase⟩ := hcase
  subst hek
  rcases hcase with ⟨rfl, rfl, rfl, rfl⟩ | ⟨rfl, rfl, rfl, rfl⟩ | ⟨rfl, k1, k5, rfl, rfl⟩ | ⟨rfl, rfl, rfl⟩
  · have e2 : ((1 : Nat) : Int) + 1 = 2 := rfl
    rw [e2] at g1 g2 hr f1 f2
    generalize mres ⟨2, 0, 0, -1⟩ L = r at g2 hr
    obtain ⟨x, b⟩ := r
    simp (maxSteps := 2000000) -implicitDefEqProofs +contextual (disch := first | assumption | omega | decide +kernel) only [push_cast, ↓capI, br2_true, br2_false, frk_tt, frk_tf, frk_f, frkD_tt, frkD_tf, frkD_f, pk2_true, pk2_false, imp_true, seval, Nat.reduceLeDiff, Nat.reduceEqDiff, reduceCtorEq, ↓reduceIte, st_items, os_items, st_rn, os_rn, cfg0, encE, agE, getV_map, List.length_map, Nat.mul_one]
    refine callO.part0 [2] g1 (by decide) rfl rfl ⟨by rfl, by simp, trivial⟩ ?_
    simp (maxSteps := 2000000) -implicitDefEqProofs +contextual (disch := first | assumption | omega | decide +kernel) only [push_cast, ↓capI, br2_true, br2_false, frk_tt, frk_tf, frk_f, frkD_tt, frkD_tf, frkD_f, pk2_true, pk2_false, imp_true, seval, Nat.reduceLeDiff, Nat.reduceEqDiff, reduceCtorEq, ↓reduceIte, st_items, os_items, st_rn, os_rn, cfg0, encE, agE, getV_map, List.length_map, Nat.mul_one]
    refine callO.part0 [2] g2 (by decide) rfl (rns_items _ _).symm ⟨by rfl, by simp [setPs, rnOs], trivial⟩ ?_
    cases b
    · simp (maxSteps := 2000000) -implicitDefEqProofs +contextual (disch := first | assumption | omega | decide +kernel) only [push_cast, ↓capI, br2_true, br2_false, frk_tt, frk_tf, frk_f, frkD_tt, frkD_tf, frkD_f, pk2_true, pk2_false, imp_true, seval, Nat.reduceLeDiff, Nat.reduceEqDiff, reduceCtorEq, ↓reduceIte, st_items, os_items, st_rn, os_rn, cfg0, encE, agE, getV_map, List.length_map, Nat.mul_one, V.rn, setPs, rnOs, Ob.rn, rns, List.set_cons_zero, List.set_cons_succ]
      refine ⟨2, ⟨by omega, f1 (by rw [hr]; simp)⟩, by (try simp only); omega, ?_⟩; exact Gn.canon (by first | rfl | (simp [List.append_nil]; rfl)) (by simp [wk]) (by simp [List.length_append]) (by simp [bel_encE, bel_strs, bel_itV, bel_itT, bel_agE, bel_items]) (by simp [bel_encE, bel_strs, bel_itV, bel_itT, bel_agE, bel_items])
    · simp (maxSteps := 2000000) -implicitDefEqProofs +contextual (disch := first | assumption | omega | decide +kernel) only [push_cast, ↓capI, br2_true, br2_false, frk_tt, frk_tf, frk_f, frkD_tt, frkD_tf, frkD_f, pk2_true, pk2_false, imp_true, seval, Nat.reduceLeDiff, Nat.reduceEqDiff, reduceCtorEq, ↓reduceIte, st_items, os_items, st_rn, os_rn, cfg0, encE, agE, getV_map, List.length_map, Nat.mul_one, V.rn, setPs, rnOs, Ob.rn, rns, List.set_cons_zero, List.set_cons_succ]
      refine callO.pc (pc22 x) ?_
      simp (maxSteps := 2000000) -implicitDefEqProofs +contextual (disch := first | assumption | omega | decide +kernel) only [push_cast, ↓capI, br2_true, br2_false, frk_tt, frk_tf, frk_f, frkD_tt, frkD_tf, frkD_f, pk2_true, pk2_false, imp_true, seval, Nat.reduceLeDiff, Nat.reduceEqDiff, reduceCtorEq, ↓reduceIte, st_items, os_items, st_rn, os_rn, cfg0, encE, agE, getV_map, List.length_map, Nat.mul_one]
      refine ⟨fun h0 => ?_, fun h0 => ?_⟩
      · have hx := f2 x (by rw [hr]; simp [h0])
        rw [hx]
        refine endK.ret ?_ (by first | rfl | simp [bel_encE, bel_strs, bel_itV, bel_itT, bel_agE, bel_items]); simp [bel_encE, bel_strs, bel_itV, bel_itT, bel_agE, bel_items, fzs_ok, imp, lenOK_iff, List.take_of_length_le, evRes, getT, getO, setO, fzs, fz, fzH, Nat.beq, retV, Res.then, ldT, ldR, mkV, getV, tt_38, tt_103, st_items, os_items, st_rn, os_rn, cfg0, encE, agE, getV_map, List.length_map, Nat.mul_one, Tryz.f29,  encEO]
      · refine ⟨2, ⟨by omega, f1 (by rw [hr]; simp [h0])⟩, by (try simp only); omega, ?_⟩; exact Gn.canon (by first | rfl | (simp [List.append_nil]; rfl)) (by simp [wk]) (by simp [List.length_append]) (by simp [bel_encE, bel_strs, bel_itV, bel_itT, bel_agE, bel_items]) (by simp [bel_encE, bel_strs, bel_itV, bel_itT, bel_agE, bel_items])
  · have e2 : ((5 : Nat) : Int) + 1 = 6 := rfl
    rw [e2] at g1 g2 hr f1 f2
    generalize mres ⟨6, 0, 1, 0⟩ L = r at g2 hr
    obtain ⟨x, b⟩ := r
    simp (maxSteps := 2000000) -implicitDefEqProofs +contextual (disch := first | assumption | omega | decide +kernel) only [push_cast, ↓capI, br2_true, br2_false, frk_tt, frk_tf, frk_f, frkD_tt, frkD_tf, frkD_f, pk2_true, pk2_false, imp_true, seval, Nat.reduceLeDiff, Nat.reduceEqDiff, reduceCtorEq, ↓reduceIte, st_items, os_items, st_rn, os_rn, cfg0, encE, agE, getV_map, List.length_map, Nat.mul_one]
    refine callO.part0 [2] g1 (by decide) rfl rfl ⟨by rfl, by simp, trivial⟩ ?_
    simp (maxSteps := 2000000) -implicitDefEqProofs +contextual (disch := first | assumption | omega | decide +kernel) only [push_cast, ↓capI, br2_true, br2_false, frk_tt, frk_tf, frk_f, frkD_tt, frkD_tf, frkD_f, pk2_true, pk2_false, imp_true, seval, Nat.reduceLeDiff, Nat.reduceEqDiff, reduceCtorEq, ↓reduceIte, st_items, os_items, st_rn, os_rn, cfg0, encE, agE, getV_map, List.length_map, Nat.mul_one]
    refine callO.part0 [2] g2 (by decide) rfl (rns_items _ _).symm ⟨by rfl, by simp [setPs, rnOs], trivial⟩ ?_
    cases b
    · simp (maxSteps := 2000000) -implicitDefEqProofs +contextual (disch := first | assumption | omega | decide +kernel) only [push_cast, ↓capI, br2_true, br2_false, frk_tt, frk_tf, frk_f, frkD_tt, frkD_tf, frkD_f, pk2_true, pk2_false, imp_true, seval, Nat.reduceLeDiff, Nat.reduceEqDiff, reduceCtorEq, ↓reduceIte, st_items, os_items, st_rn, os_rn, cfg0, encE, agE, getV_map, List.length_map, Nat.mul_one, V.rn, setPs, rnOs, Ob.rn, rns, List.set_cons_zero, List.set_cons_succ]
      refine ⟨2, ⟨by omega, f1 (by rw [hr]; simp)⟩, by (try simp only); omega, ?_⟩; exact Gn.canon (by first | rfl | (simp [List.append_nil]; rfl)) (by simp [wk]) (by simp [List.length_append]) (by simp [bel_encE, bel_strs, bel_itV, bel_itT, bel_agE, bel_items]) (by simp [bel_encE, bel_strs, bel_itV, bel_itT, bel_agE, bel_items])
    · simp (maxSteps := 2000000) -implicitDefEqProofs +contextual (disch := first | assumption | omega | decide +kernel) only [push_cast, ↓capI, br2_true, br2_false, frk_tt, frk_tf, frk_f, frkD_tt, frkD_tf, frkD_f, pk2_true, pk2_false, imp_true, seval, Nat.reduceLeDiff, Nat.reduceEqDiff, reduceCtorEq, ↓reduceIte, st_items, os_items, st_rn, os_rn, cfg0, encE, agE, getV_map, List.length_map, Nat.mul_one, V.rn, setPs, rnOs, Ob.rn, rns, List.set_cons_zero, List.set_cons_succ]
      refine callO.pc (pc22 x) ?_
      simp (maxSteps := 2000000) -implicitDefEqProofs +contextual (disch := first | assumption | omega | decide +kernel) only [push_cast, ↓capI, br2_true, br2_false, frk_tt, frk_tf, frk_f, frkD_tt, frkD_tf, frkD_f, pk2_true, pk2_false, imp_true, seval, Nat.reduceLeDiff, Nat.reduceEqDiff, reduceCtorEq, ↓reduceIte, st_items, os_items, st_rn, os_rn, cfg0, encE, agE, getV_map, List.length_map, Nat.mul_one]
      refine ⟨fun h0 => ?_, fun h0 => ?_⟩
      · have hx := f2 x (by rw [hr]; simp [h0])
        rw [hx]
        refine endK.ret ?_ (by first | rfl | simp [bel_encE, bel_strs, bel_itV, bel_itT, bel_agE, bel_items]); simp [bel_encE, bel_strs, bel_itV, bel_itT, bel_agE, bel_items, fzs_ok, imp, lenOK_iff, List.take_of_length_le, evRes, getT, getO, setO, fzs, fz, fzH, Nat.beq, retV, Res.then, ldT, ldR, mkV, getV, tt_38, tt_103, st_items, os_items, st_rn, os_rn, cfg0, encE, agE, getV_map, List.length_map, Nat.mul_one, Tryz.f29,  encEO]
      · refine ⟨2, ⟨by omega, f1 (by rw [hr]; simp [h0])⟩, by (try simp only); omega, ?_⟩; exact Gn.canon (by first | rfl | (simp [List.append_nil]; rfl)) (by simp [wk]) (by simp [List.length_append]) (by simp [bel_encE, bel_strs, bel_itV, bel_itT, bel_agE, bel_items]) (by simp [bel_encE, bel_strs, bel_itV, bel_itT, bel_agE, bel_items])
  · have n2 : ¬ ((k : Int) + 1 = 2) := by omega
    have n6 : ¬ ((k : Int) + 1 = 6) := by omega
    generalize mres ⟨(k : Int) + 1, 0, 0, 0⟩ L = r at g2 hr
    obtain ⟨x, b⟩ := r
    simp (maxSteps := 2000000) -implicitDefEqProofs +contextual (disch := first | assumption | omega | decide +kernel) only [push_cast, ↓capI, br2_true, br2_false, frk_tt, frk_tf, frk_f, frkD_tt, frkD_tf, frkD_f, pk2_true, pk2_false, imp_true, seval, Nat.reduceLeDiff, Nat.reduceEqDiff, reduceCtorEq, ↓reduceIte, st_items, os_items, st_rn, os_rn, cfg0, encE, agE, getV_map, List.length_map, Nat.mul_one, n2, n6]
    refine callO.part0 [2] g1 (by decide) rfl rfl ⟨by rfl, by simp, trivial⟩ ?_
    simp (maxSteps := 2000000) -implicitDefEqProofs +contextual (disch := first | assumption | omega | decide +kernel) only [push_cast, ↓capI, br2_true, br2_false, frk_tt, frk_tf, frk_f, frkD_tt, frkD_tf, frkD_f, pk2_true, pk2_false, imp_true, seval, Nat.reduceLeDiff, Nat.reduceEqDiff, reduceCtorEq, ↓reduceIte, st_items, os_items, st_rn, os_rn, cfg0, encE, agE, getV_map, List.length_map, Nat.mul_one]
    refine callO.part0 [2] g2 (by decide) rfl (rns_items _ _).symm ⟨by rfl, by simp [setPs, rnOs], trivial⟩ ?_
    cases b
    · simp (maxSteps := 2000000) -implicitDefEqProofs +contextual (disch := first | assumption | omega | decide +kernel) only [push_cast, ↓capI, br2_true, br2_false, frk_tt, frk_tf, frk_f, frkD_tt, frkD_tf, frkD_f, pk2_true, pk2_false, imp_true, seval, Nat.reduceLeDiff, Nat.reduceEqDiff, reduceCtorEq, ↓reduceIte, st_items, os_items, st_rn, os_rn, cfg0, encE, agE, getV_map, List.length_map, Nat.mul_one, V.rn, setPs, rnOs, Ob.rn, rns, List.set_cons_zero, List.set_cons_succ]
      refine ⟨2, ⟨by omega, f1 (by rw [hr]; simp)⟩, by (try simp only); omega, ?_⟩; exact Gn.canon (by first | rfl | (simp [List.append_nil]; rfl)) (by simp [wk]) (by simp [List.length_append]) (by simp [bel_encE, bel_strs, bel_itV, bel_itT, bel_agE, bel_items]) (by simp [bel_encE, bel_strs, bel_itV, bel_itT, bel_agE, bel_items])
    · simp (maxSteps := 2000000) -implicitDefEqProofs +contextual (disch := first | assumption | omega | decide +kernel) only [push_cast, ↓capI, br2_true, br2_false, frk_tt, frk_tf, frk_f, frkD_tt, frkD_tf, frkD_f, pk2_true, pk2_false, imp_true, seval, Nat.reduceLeDiff, Nat.reduceEqDiff, reduceCtorEq, ↓reduceIte, st_items, os_items, st_rn, os_rn, cfg0, encE, agE, getV_map, List.length_map, Nat.mul_one, V.rn, setPs, rnOs, Ob.rn, rns, List.set_cons_zero, List.set_cons_succ]
      refine callO.pc (pc22 x) ?_
      simp (maxSteps := 2000000) -implicitDefEqProofs +contextual (disch := first | assumption | omega | decide +kernel) only [push_cast, ↓capI, br2_true, br2_false, frk_tt, frk_tf, frk_f, frkD_tt, frkD_tf, frkD_f, pk2_true, pk2_false, imp_true, seval, Nat.reduceLeDiff, Nat.reduceEqDiff, reduceCtorEq, ↓reduceIte, st_items, os_items, st_rn, os_rn, cfg0, encE, agE, getV_map, List.length_map, Nat.mul_one]
      refine ⟨fun h0 => ?_, fun h0 => ?_⟩
      · have hx := f2 x (by rw [hr]; simp [h0])
        rw [hx]
        refine endK.ret ?_ (by first | rfl | simp [bel_encE, bel_strs, bel_itV, bel_itT, bel_agE, bel_items]); simp [bel_encE, bel_strs, bel_itV, bel_itT, bel_agE, bel_items, fzs_ok, imp, lenOK_iff, List.take_of_length_le, evRes, getT, getO, setO, fzs, fz, fzH, Nat.beq, retV, Res.then, ldT, ldR, mkV, getV, tt_38, tt_103, st_items, os_items, st_rn, os_rn, cfg0, encE, agE, getV_map, List.length_map, Nat.mul_one, Tryz.f29,  encEO]
      · refine ⟨2, ⟨by omega, f1 (by rw [hr]; simp [h0])⟩, by (try simp only); omega, ?_⟩; exact Gn.canon (by first | rfl | (simp [List.append_nil]; rfl)) (by simp [wk]) (by simp [List.length_append]) (by simp [bel_encE, bel_strs, bel_itV, bel_itT, bel_agE, bel_items]) (by simp [bel_encE, bel_strs, bel_itV, bel_itT, bel_agE, bel_items])
  · by_cases n2 : (k : Int) + 1 = 2
    · rw [n2] at g1 g2 hr f1 f2
      generalize mres ⟨2, 0, 0, 0⟩ L = r at g2 hr
      obtain ⟨x, b⟩ := r
      simp (maxSteps := 2000000) -implicitDefEqProofs +contextual (disch := first | assumption | omega | decide +kernel) only [push_cast, ↓capI, br2_true, br2_false, frk_tt, frk_tf, frk_f, frkD_tt, frkD_tf, frkD_f, pk2_true, pk2_false, imp_true, seval, Nat.reduceLeDiff, Nat.reduceEqDiff, reduceCtorEq, ↓reduceIte, st_items, os_items, st_rn, os_rn, cfg0, encE, agE, getV_map, List.length_map, Nat.mul_one, n2]
      refine callO.part0 [2] g1 (by decide) rfl rfl ⟨by rfl, by simp, trivial⟩ ?_
      simp (maxSteps := 2000000) -implicitDefEqProofs +contextual (disch := first | assumption | omega | decide +kernel) only [push_cast, ↓capI, br2_true, br2_false, frk_tt, frk_tf, frk_f, frkD_tt, frkD_tf, frkD_f, pk2_true, pk2_false, imp_true, seval, Nat.reduceLeDiff, Nat.reduceEqDiff, reduceCtorEq, ↓reduceIte, st_items, os_items, st_rn, os_rn, cfg0, encE, agE, getV_map, List.length_map, Nat.mul_one]
      refine callO.part0 [2] g2 (by decide) rfl (rns_items _ _).symm ⟨by rfl, by simp [setPs, rnOs], trivial⟩ ?_
      cases b
      · simp (maxSteps := 2000000) -implicitDefEqProofs +contextual (disch := first | assumption | omega | decide +kernel) only [push_cast, ↓capI, br2_true, br2_false, frk_tt, frk_tf, frk_f, frkD_tt, frkD_tf, frkD_f, pk2_true, pk2_false, imp_true, seval, Nat.reduceLeDiff, Nat.reduceEqDiff, reduceCtorEq, ↓reduceIte, st_items, os_items, st_rn, os_rn, cfg0, encE, agE, getV_map, List.length_map, Nat.mul_one, V.rn, setPs, rnOs, Ob.rn, rns, List.set_cons_zero, List.set_cons_succ]
        refine ⟨1, ⟨by omega, f1 (by rw [hr]; simp)⟩, by (try simp only); omega, ?_⟩; exact Gn.canon (by first | rfl | (simp [List.append_nil]; rfl)) (by simp [wk]) (by simp [List.length_append]) (by simp [bel_encE, bel_strs, bel_itV, bel_itT, bel_agE, bel_items]) (by simp [bel_encE, bel_strs, bel_itV, bel_itT, bel_agE, bel_items])
      · simp (maxSteps := 2000000) -implicitDefEqProofs +contextual (disch := first | assumption | omega | decide +kernel) only [push_cast, ↓capI, br2_true, br2_false, frk_tt, frk_tf, frk_f, frkD_tt, frkD_tf, frkD_f, pk2_true, pk2_false, imp_true, seval, Nat.reduceLeDiff, Nat.reduceEqDiff, reduceCtorEq, ↓reduceIte, st_items, os_items, st_rn, os_rn, cfg0, encE, agE, getV_map, List.length_map, Nat.mul_one, V.rn, setPs, rnOs, Ob.rn, rns, List.set_cons_zero, List.set_cons_succ]
        refine callO.pc (pc22 x) ?_
        simp (maxSteps := 2000000) -implicitDefEqProofs +contextual (disch := first | assumption | omega | decide +kernel) only [push_cast, ↓capI, br2_true, br2_false, frk_tt, frk_tf, frk_f, frkD_tt, frkD_tf, frkD_f, pk2_true, pk2_false, imp_true, seval, Nat.reduceLeDiff, Nat.reduceEqDiff, reduceCtorEq, ↓reduceIte, st_items, os_items, st_rn, os_rn, cfg0, encE, agE, getV_map, List.length_map, Nat.mul_one]
        refine ⟨fun h0 => ?_, fun h0 => ?_⟩
        · have hx := f2 x (by rw [hr]; simp [h0])
          rw [hx]
          refine endK.ret ?_ (by first | rfl | simp [bel_encE, bel_strs, bel_itV, bel_itT, bel_agE, bel_items]); simp [bel_encE, bel_strs, bel_itV, bel_itT, bel_agE, bel_items, fzs_ok, imp, lenOK_iff, List.take_of_length_le, evRes, getT, getO, setO, fzs, fz, fzH, Nat.beq, retV, Res.then, ldT, ldR, mkV, getV, tt_38, tt_103, st_items, os_items, st_rn, os_rn, cfg0, encE, agE, getV_map, List.length_map, Nat.mul_one, Tryz.f29,  encEO]
        · refine ⟨1, ⟨by omega, f1 (by rw [hr]; simp [h0])⟩, by (try simp only); omega, ?_⟩; exact Gn.canon (by first | rfl | (simp [List.append_nil]; rfl)) (by simp [wk]) (by simp [List.length_append]) (by simp [bel_encE, bel_strs, bel_itV, bel_itT, bel_agE, bel_items]) (by simp [bel_encE, bel_strs, bel_itV, bel_itT, bel_agE, bel_items])
  
    by_cases n6 : (k : Int) + 1 = 6
    · rw [n6] at g1 g2 hr f1 f2
      generalize mres ⟨6, 0, 0, 0⟩ L = r at g2 hr
      obtain ⟨x, b⟩ := r
      simp (maxSteps := 2000000) -implicitDefEqProofs +contextual (disch := first | assumption | omega | decide +kernel) only [push_cast, ↓capI, br2_true, br2_false, frk_tt, frk_tf, frk_f, frkD_tt, frkD_tf, frkD_f, pk2_true, pk2_false, imp_true, seval, Nat.reduceLeDiff, Nat.reduceEqDiff, reduceCtorEq, ↓reduceIte, st_items, os_items, st_rn, os_rn, cfg0, encE, agE, getV_map, List.length_map, Nat.mul_one, n6]
      refine callO.part0 [2] g1 (by decide) rfl rfl ⟨by rfl, by simp, trivial⟩ ?_
      simp (maxSteps := 2000000) -implicitDefEqProofs +contextual (disch := first | assumption | omega | decide +kernel) only [push_cast, ↓capI, br2_true, br2_false, frk_tt, frk_tf, frk_f, frkD_tt, frkD_tf, frkD_f, pk2_true, pk2_false, imp_true, seval, Nat.reduceLeDiff, Nat.reduceEqDiff, reduceCtorEq, ↓reduceIte, st_items, os_items, st_rn, os_rn, cfg0, encE, agE, getV_map, List.length_map, Nat.mul_one]
      refine callO.part0 [2] g2 (by decide) rfl (rns_items _ _).symm ⟨by rfl, by simp [setPs, rnOs], trivial⟩ ?_
      cases b
      · simp (maxSteps := 2000000) -implicitDefEqProofs +contextual (disch := first | assumption | omega | decide +kernel) only [push_cast, ↓capI, br2_true, br2_false, frk_tt, frk_tf, frk_f, frkD_tt, frkD_tf, frkD_f, pk2_true, pk2_false, imp_true, seval, Nat.reduceLeDiff, Nat.reduceEqDiff, reduceCtorEq, ↓reduceIte, st_items, os_items, st_rn, os_rn, cfg0, encE, agE, getV_map, List.length_map, Nat.mul_one, V.rn, setPs, rnOs, Ob.rn, rns, List.set_cons_zero, List.set_cons_succ]
        refine ⟨1, ⟨by omega, f1 (by rw [hr]; simp)⟩, by (try simp only); omega, ?_⟩; exact Gn.canon (by first | rfl | (simp [List.append_nil]; rfl)) (by simp [wk]) (by simp [List.length_append]) (by simp [bel_encE, bel_strs, bel_itV, bel_itT, bel_agE, bel_items]) (by simp [bel_encE, bel_strs, bel_itV, bel_itT, bel_agE, bel_items])
      · simp (maxSteps := 2000000) -implicitDefEqProofs +contextual (disch := first | assumption | omega | decide +kernel) only [push_cast, ↓capI, br2_true, br2_false, frk_tt, frk_tf, frk_f, frkD_tt, frkD_tf, frkD_f, pk2_true, pk2_false, imp_true, seval, Nat.reduceLeDiff, Nat.reduceEqDiff, reduceCtorEq, ↓reduceIte, st_items, os_items, st_rn, os_rn, cfg0, encE, agE, getV_map, List.length_map, Nat.mul_one, V.rn, setPs, rnOs, Ob.rn, rns, List.set_cons_zero, List.set_cons_succ]
        refine callO.pc (pc22 x) ?_
        simp (maxSteps := 2000000) -implicitDefEqProofs +contextual (disch := first | assumption | omega | decide +kernel) only [push_cast, ↓capI, br2_true, br2_false, frk_tt, frk_tf, frk_f, frkD_tt, frkD_tf, frkD_f, pk2_true, pk2_false, imp_true, seval, Nat.reduceLeDiff, Nat.reduceEqDiff, reduceCtorEq, ↓reduceIte, st_items, os_items, st_rn, os_rn, cfg0, encE, agE, getV_map, List.length_map, Nat.mul_one]
        refine ⟨fun h0 => ?_, fun h0 => ?_⟩
        · have hx := f2 x (by rw [hr]; simp [h0])
          rw [hx]
          refine endK.ret ?_ (by first | rfl | simp [bel_encE, bel_strs, bel_itV, bel_itT, bel_agE, bel_items]); simp [bel_encE, bel_strs, bel_itV, bel_itT, bel_agE, bel_items, fzs_ok, imp, lenOK_iff, List.take_of_length_le, evRes, getT, getO, setO, fzs, fz, fzH, Nat.beq, retV, Res.then, ldT, ldR, mkV, getV, tt_38, tt_103, st_items, os_items, st_rn, os_rn, cfg0, encE, agE, getV_map, List.length_map, Nat.mul_one, Tryz.f29,  encEO]
        · refine ⟨1, ⟨by omega, f1 (by rw [hr]; simp [h0])⟩, by (try simp only); omega, ?_⟩; exact Gn.canon (by first | rfl | (simp [List.append_nil]; rfl)) (by simp [wk]) (by simp [List.length_append]) (by simp [bel_encE, bel_strs, bel_itV, bel_itT, bel_agE, bel_items]) (by simp [bel_encE, bel_strs, bel_itV, bel_itT, bel_agE, bel_items])
  
    generalize mres ⟨(k : Int) + 1, 0, 0, 0⟩ L = r at g2 hr
    obtain ⟨x, b⟩ := r
    simp (maxSteps := 2000000) -implicitDefEqProofs +contextual (disch := first | assumption | omega | decide +kernel) only [push_cast, ↓capI, br2_true, br2_false, frk_tt, frk_tf, frk_f, frkD_tt, frkD_tf, frkD_f, pk2_true, pk2_false, imp_true, seval, Nat.reduceLeDiff, Nat.reduceEqDiff, reduceCtorEq, ↓reduceIte, st_items, os_items, st_rn, os_rn, cfg0, encE, agE, getV_map, List.length_map, Nat.mul_one, n2, n6]
    refine callO.part0 [2] g1 (by decide) rfl rfl ⟨by rfl, by simp, trivial⟩ ?_
    simp (maxSteps := 2000000) -implicitDefEqProofs +contextual (disch := first | assumption | omega | decide +kernel) only [push_cast, ↓capI, br2_true, br2_false, frk_tt, frk_tf, frk_f, frkD_tt, frkD_tf, frkD_f, pk2_true, pk2_false, imp_true, seval, Nat.reduceLeDiff, Nat.reduceEqDiff, reduceCtorEq, ↓reduceIte, st_items, os_items, st_rn, os_rn, cfg0, encE, agE, getV_map, List.length_map, Nat.mul_one]
    refine callO.part0 [2] g2 (by decide) rfl (rns_items _ _).symm ⟨by rfl, by simp [setPs, rnOs], trivial⟩ ?_
    cases b
    · simp (maxSteps := 2000000) -implicitDefEqProofs +contextual (disch := first | assumption | omega | decide +kernel) only [push_cast, ↓capI, br2_true, br2_false, frk_tt, frk_tf, frk_f, frkD_tt, frkD_tf, frkD_f, pk2_true, pk2_false, imp_true, seval, Nat.reduceLeDiff, Nat.reduceEqDiff, reduceCtorEq, ↓reduceIte, st_items, os_items, st_rn, os_rn, cfg0, encE, agE, getV_map, List.length_map, Nat.mul_one, V.rn, setPs, rnOs, Ob.rn, rns, List.set_cons_zero, List.set_cons_succ]
      refine ⟨1, ⟨by omega, f1 (by rw [hr]; simp)⟩, by (try simp only); omega, ?_⟩; exact Gn.canon (by first | rfl | (simp [List.append_nil]; rfl)) (by simp [wk]) (by simp [List.length_append]) (by simp [bel_encE, bel_strs, bel_itV, bel_itT, bel_agE, bel_items]) (by simp [bel_encE, bel_strs, bel_itV, bel_itT, bel_agE, bel_items])
    · simp (maxSteps := 2000000) -implicitDefEqProofs +contextual (disch := first | assumption | omega | decide +kernel) only [push_cast, ↓capI, br2_true, br2_false, frk_tt, frk_tf, frk_f, frkD_tt, frkD_tf, frkD_f, pk2_true, pk2_false, imp_true, seval, Nat.reduceLeDiff, Nat.reduceEqDiff, reduceCtorEq, ↓reduceIte, st_items, os_items, st_rn, os_rn, cfg0, encE, agE, getV_map, List.length_map, Nat.mul_one, V.rn, setPs, rnOs, Ob.rn, rns, List.set_cons_zero, List.set_cons_succ]
      refine callO.pc (pc22 x) ?_
      simp (maxSteps := 2000000) -implicitDefEqProofs +contextual (disch := first | assumption | omega | decide +kernel) only [push_cast, ↓capI, br2_true, br2_false, frk_tt, frk_tf, frk_f, frkD_tt, frkD_tf, frkD_f, pk2_true, pk2_false, imp_true, seval, Nat.reduceLeDiff, Nat.reduceEqDiff, reduceCtorEq, ↓reduceIte, st_items, os_items, st_rn, os_rn, cfg0, encE, agE, getV_map, List.length_map, Nat.mul_one]
      refine ⟨fun h0 => ?_, fun h0 => ?_⟩
      · have hx := f2 x (by rw [hr]; simp [h0])
        rw [hx]
        refine endK.ret ?_ (by first | rfl | simp [bel_encE, bel_strs, bel_itV, bel_itT, bel_agE, bel_items]); simp [bel_encE, bel_strs, bel_itV, bel_itT, bel_agE, bel_items, fzs_ok, imp, lenOK_iff, List.take_of_length_le, evRes, getT, getO, setO, fzs, fz, fzH, Nat.beq, retV, Res.then, ldT, ldR, mkV, getV, tt_38, tt_103, st_items, os_items, st_rn, os_rn, cfg0, encE, agE, getV_map, List.length_map, Nat.mul_one, Tryz.f29,  encEO]
      · refine ⟨1, ⟨by omega, f1 (by rw [hr]; simp [h0])⟩, by (try simp only); omega, ?_⟩; exact Gn.canon (by first | rfl | (simp [List.append_nil]; rfl)) (by simp [wk]) (by simp [List.length_append]) (by simp [bel_encE, bel_strs, bel_itV, bel_itT, bel_agE, bel_items]) (by simp [bel_encE, bel_strs, bel_itV, bel_itT, bel_agE, bel_items])
end Go.Proofs.YtafongdfnpnneaaGreatDoor

/- Chapter 53: a text read line by line, by the program. -/
set_option maxRecDepth 100000
set_option maxHeartbeats 4000000
set_option linter.all false
namespace Go.Proofs.YtafongdfnpnneaaGreatDoor
open Go.Vm

theorem lenE (x : Ev) : (encE x).length = 4 := rfl
theorem bel_Es {n : Nat} (l : List Ev) : belAll n (l.flatMap encE) = true := belAll_flat (fun x => bel_encE x) l
theorem bel_slE {n : Nat} (l : List Ev) : (slE l).bel n = true := by rw [slE, bel_sl]; exact bel_Es l
theorem ones_E {g : Bool} {p : Prop} : ∀ {xs : List Ev}, ones g (xs.flatMap encE) p = p
  | [] => rfl
  | x :: xs => by simp only [List.flatMap_cons, encE, List.cons_append, List.nil_append, ones, V.one]; exact ones_E
theorem take_E {l : List Ev} : (l.flatMap encE).take (l.length * 4) = l.flatMap encE := List.take_of_length_le (by rw [len_flat lenE]; exact Nat.le_refl _)
/-- the events of a text, the line of its first fault, the error -/
def prsG : Nat → List UInt8 → Nat → List Ev → List Ev × Nat × Int
  | 0, _, _, l => (l, 0, 0)
  | f + 1, s, n, l => if s = [] then (l, 0, 0) else
    if (cutC 10 s).2.2 = true then match parE (spl (cutC 10 s).1) with
      | some x => prsG f (cutC 10 s).2.1 (n + 1) (l ++ [x])
      | none => ([], n, 5)
    else ([], n, 5)
def prsE (s : List UInt8) : List Ev × Nat × Int := if 16384 < s.length then ([], 0, 4) else prsG (s.length + 1) s 1 []
def encPr (r : List Ev × Nat × Int) : V := .tup [if r.2.2 = 0 then slE r.1 else .sl true [] 0, .int .i64 r.2.1, .int .i64 r.2.2]
theorem bel_encPr {n : Nat} (r : List Ev × Nat × Int) : (encPr r).bel n = true := by
  unfold encPr
  split <;> simp [bel_slE]
theorem cut_len {c : UInt8} : ∀ {s : List UInt8}, (cutC c s).1.length ≤ s.length ∧ ((cutC c s).2.2 = true → (cutC c s).2.1.length < s.length)
  | [] => ⟨by simp [cutC], by simp [cutC]⟩
  | x :: s => by
    obtain ⟨a, b⟩ := @cut_len c s
    rw [cutC]
    split
    · exact ⟨by simp, fun _ => by simp⟩
    · refine ⟨by simpa using a, fun h => ?_⟩
      have := b h
      simp only [List.length_cons]; omega
theorem pc12 (s : List UInt8) (hs : s.length ≤ 4000000000) : PC Tryz.prog 12 [.str s] (encPr (prsE s)) := by
  refine PC.walk tok mixed cfg0 Tryz.func12 rfl Tryz.call12 (by simp [bel_encE, bel_agE, bel_Es, bel_slE, bel_encEO, bel_encPr, belAll_append]) (bel_encPr _) ?_; simp (maxSteps := 2000000) -implicitDefEqProofs +contextual (disch := first | assumption | omega | decide +kernel) only [push_cast, ↓capI, br2_true, br2_false, frk_tt, frk_tf, frk_f, frkD_tt, frkD_tf, frkD_f, pk2_true, pk2_false, imp_true, seval, Nat.reduceLeDiff, Nat.reduceEqDiff, reduceCtorEq, ↓reduceIte, cfg0, encE, agE, getV_map, List.length_map, Nat.mul_one, beq_dec, len_flat lenE, take_E, Tryz.ntmps12]
  by_cases hl : 16384 < s.length
  · have hl2 : (16384 : Int) < (s.length : Int) := by omega
    rw [prsE, if_pos hl]
    simp (maxSteps := 2000000) -implicitDefEqProofs +contextual (disch := first | assumption | omega | decide +kernel) only [push_cast, ↓capI, br2_true, br2_false, frk_tt, frk_tf, frk_f, frkD_tt, frkD_tf, frkD_f, pk2_true, pk2_false, imp_true, seval, Nat.reduceLeDiff, Nat.reduceEqDiff, reduceCtorEq, ↓reduceIte, cfg0, encE, agE, getV_map, List.length_map, Nat.mul_one, beq_dec, len_flat lenE, take_E, hl2]
    refine endK.ret ?_ (by first | rfl | simp [bel_encE, bel_agE, bel_Es, bel_slE, bel_encEO, bel_encPr, belAll_append]); simp [evRes, getT, retV, Tryz.f12,  encPr]
  rw [prsE, if_neg hl]
  have hl2 : ¬ (16384 : Int) < (s.length : Int) := by omega
  simp (maxSteps := 2000000) -implicitDefEqProofs +contextual (disch := first | assumption | omega | decide +kernel) only [push_cast, ↓capI, br2_true, br2_false, frk_tt, frk_tf, frk_f, frkD_tt, frkD_tf, frkD_f, pk2_true, pk2_false, imp_true, seval, Nat.reduceLeDiff, Nat.reduceEqDiff, reduceCtorEq, ↓reduceIte, cfg0, encE, agE, getV_map, List.length_map, Nat.mul_one, beq_dec, len_flat lenE, take_E, hl2]
  refine T.lp tok mixed cfg0 (fun ((q, l, n, ver) : List UInt8 × List Ev × Nat × Nat) => sv (.str q) (dd 1 (sv (.buf 0 ver 0 l.length 4) (kp 2 (sv (.int .i64 n) (dd 36 (nl))))))) (fun H0 ((q, l, n, ver) : List UInt8 × List Ev × Nat × Nat) => [.cells ver (l.flatMap encE)]) (fun ((q, l, n, ver) : List UInt8 × List Ev × Nat × Nat) => (q.length + n ≤ s.length + 1 ∧ l.length ≤ n) ∧ ∃ f, q.length < f ∧ prsG f q n l = prsG (s.length + 1) s 1 []) (fun ((q, l, n, ver) : List UInt8 × List Ev × Nat × Nat) => q.length) ((s, [], 1, 0)) ?_ ?_ ?_
  · exact ⟨⟨by simp, by simp⟩, s.length + 1, by simp, rfl⟩
  · refine (Gn.ownNil (t := 2) (sz := 4) rfl).trans ?_
    exact Gn.canon (J := []) (by first | rfl | (simp [List.append_nil]; done) | (simp [List.append_nil]; rfl)) (by simp [wk, putT, kp, dd, sv, nl]) (by simp [List.length_append]) (by simp [bel_encE, bel_agE, bel_Es, bel_slE, bel_encEO, bel_encPr, belAll_append, kp, dd, sv, nl]) (by simp [bel_encE, bel_agE, bel_Es, bel_slE, bel_encEO, bel_encPr, belAll_append])
  rintro ⟨q, l, n, ver⟩ ⟨⟨hn, hln⟩, f, hf, hp⟩
  (try simp only at hn hln hf hp)
  obtain ⟨f, rfl⟩ : ∃ g, f = g + 1 := ⟨f - 1, by omega⟩
  rw [prsG] at hp
  by_cases hq : q = []
  · rw [if_pos hq] at hp
    subst hq
    rw [← hp]
    simp (maxSteps := 2000000) -implicitDefEqProofs +contextual (disch := first | assumption | omega | decide +kernel) only [push_cast, ↓capI, br2_true, br2_false, frk_tt, frk_tf, frk_f, frkD_tt, frkD_tf, frkD_f, pk2_true, pk2_false, imp_true, seval, Nat.reduceLeDiff, Nat.reduceEqDiff, reduceCtorEq, ↓reduceIte, cfg0, encE, agE, getV_map, List.length_map, Nat.mul_one, beq_dec, len_flat lenE, take_E]
    refine endK.gn (Gn.freeze (id := 0) rfl) ?_; refine endK.ret ?_ (by first | rfl | simp [bel_encE, bel_agE, bel_Es, bel_slE, bel_encEO, bel_encPr, belAll_append]); simp [bel_encE, bel_agE, bel_Es, bel_slE, bel_encEO, bel_encPr, belAll_append, fzs_ok, imp, lenOK_iff, List.take_of_length_le, evRes, getT, getO, setO, fzs, fz, fzH, Nat.beq, retV, Res.then, ldT, ldR, mkV, getV, tt_38, tt_27, tt_9, cfg0, encE, agE, getV_map, List.length_map, Nat.mul_one, beq_dec, len_flat lenE, take_E, Tryz.f12,  encPr, slE]
  rw [if_neg hq] at hp
  have h27 := pc28 q 10 (by omega)
  obtain ⟨c1, c2⟩ := @cut_len 10 q
  have h28 := pc29 (cutC 10 q).1 (by omega)
  generalize cutC 10 q = r at hp h27 c1 c2 h28
  obtain ⟨tx, rs, ok⟩ := r
  simp only at hp c1 c2 h28
  generalize parE (spl tx) = x at hp h28
  simp (maxSteps := 2000000) -implicitDefEqProofs +contextual (disch := first | assumption | omega | decide +kernel) only [push_cast, ↓capI, br2_true, br2_false, frk_tt, frk_tf, frk_f, frkD_tt, frkD_tf, frkD_f, pk2_true, pk2_false, imp_true, seval, Nat.reduceLeDiff, Nat.reduceEqDiff, reduceCtorEq, ↓reduceIte, cfg0, encE, agE, getV_map, List.length_map, Nat.mul_one, beq_dec, len_flat lenE, take_E, hq]
  refine callO.pc h27 ?_
  simp (maxSteps := 2000000) -implicitDefEqProofs +contextual (disch := first | assumption | omega | decide +kernel) only [push_cast, ↓capI, br2_true, br2_false, frk_tt, frk_tf, frk_f, frkD_tt, frkD_tf, frkD_f, pk2_true, pk2_false, imp_true, seval, Nat.reduceLeDiff, Nat.reduceEqDiff, reduceCtorEq, ↓reduceIte, cfg0, encE, agE, getV_map, List.length_map, Nat.mul_one, beq_dec, len_flat lenE, take_E, encCut]
  refine callO.pc h28 ?_
  cases ok with
  | false =>
    rw [if_neg (by decide)] at hp
    rw [← hp]
    cases x with
    | none =>
      simp (maxSteps := 2000000) -implicitDefEqProofs +contextual (disch := first | assumption | omega | decide +kernel) only [push_cast, ↓capI, br2_true, br2_false, frk_tt, frk_tf, frk_f, frkD_tt, frkD_tf, frkD_f, pk2_true, pk2_false, imp_true, seval, Nat.reduceLeDiff, Nat.reduceEqDiff, reduceCtorEq, ↓reduceIte, cfg0, encE, agE, getV_map, List.length_map, Nat.mul_one, beq_dec, len_flat lenE, take_E, encEO]
      refine endK.ret ?_ (by first | rfl | simp [bel_encE, bel_agE, bel_Es, bel_slE, bel_encEO, bel_encPr, belAll_append]); simp [bel_encE, bel_agE, bel_Es, bel_slE, bel_encEO, bel_encPr, belAll_append, fzs_ok, imp, lenOK_iff, List.take_of_length_le, evRes, getT, getO, setO, fzs, fz, fzH, Nat.beq, retV, Res.then, ldT, ldR, mkV, getV, tt_38, tt_27, tt_9, cfg0, encE, agE, getV_map, List.length_map, Nat.mul_one, beq_dec, len_flat lenE, take_E, Tryz.f12,  encPr, slE]
    | some x =>
      simp (maxSteps := 2000000) -implicitDefEqProofs +contextual (disch := first | assumption | omega | decide +kernel) only [push_cast, ↓capI, br2_true, br2_false, frk_tt, frk_tf, frk_f, frkD_tt, frkD_tf, frkD_f, pk2_true, pk2_false, imp_true, seval, Nat.reduceLeDiff, Nat.reduceEqDiff, reduceCtorEq, ↓reduceIte, cfg0, encE, agE, getV_map, List.length_map, Nat.mul_one, beq_dec, len_flat lenE, take_E, encEO]
      refine endK.ret ?_ (by first | rfl | simp [bel_encE, bel_agE, bel_Es, bel_slE, bel_encEO, bel_encPr, belAll_append]); simp [bel_encE, bel_agE, bel_Es, bel_slE, bel_encEO, bel_encPr, belAll_append, fzs_ok, imp, lenOK_iff, List.take_of_length_le, evRes, getT, getO, setO, fzs, fz, fzH, Nat.beq, retV, Res.then, ldT, ldR, mkV, getV, tt_38, tt_27, tt_9, cfg0, encE, agE, getV_map, List.length_map, Nat.mul_one, beq_dec, len_flat lenE, take_E, Tryz.f12,  encPr, slE]
  | true =>
    rw [if_pos rfl] at hp
    have c3 := c2 rfl
    cases x with
    | none =>
      rw [← hp]
      simp (maxSteps := 2000000) -implicitDefEqProofs +contextual (disch := first | assumption | omega | decide +kernel) only [push_cast, ↓capI, br2_true, br2_false, frk_tt, frk_tf, frk_f, frkD_tt, frkD_tf, frkD_f, pk2_true, pk2_false, imp_true, seval, Nat.reduceLeDiff, Nat.reduceEqDiff, reduceCtorEq, ↓reduceIte, cfg0, encE, agE, getV_map, List.length_map, Nat.mul_one, beq_dec, len_flat lenE, take_E, encEO]
      refine endK.ret ?_ (by first | rfl | simp [bel_encE, bel_agE, bel_Es, bel_slE, bel_encEO, bel_encPr, belAll_append]); simp [bel_encE, bel_agE, bel_Es, bel_slE, bel_encEO, bel_encPr, belAll_append, fzs_ok, imp, lenOK_iff, List.take_of_length_le, evRes, getT, getO, setO, fzs, fz, fzH, Nat.beq, retV, Res.then, ldT, ldR, mkV, getV, tt_38, tt_27, tt_9, cfg0, encE, agE, getV_map, List.length_map, Nat.mul_one, beq_dec, len_flat lenE, take_E, Tryz.f12,  encPr, slE]
    | some x =>
      simp only at hp
      simp (maxSteps := 2000000) -implicitDefEqProofs +contextual (disch := first | assumption | omega | decide +kernel) only [push_cast, ↓capI, br2_true, br2_false, frk_tt, frk_tf, frk_f, frkD_tt, frkD_tf, frkD_f, pk2_true, pk2_false, imp_true, seval, Nat.reduceLeDiff, Nat.reduceEqDiff, reduceCtorEq, ↓reduceIte, cfg0, encE, agE, getV_map, List.length_map, Nat.mul_one, beq_dec, len_flat lenE, take_E, encEO]
      refine ⟨(rs, l ++ [x], n + 1, ver + 1), ⟨⟨by simp only; omega, by simp; omega⟩, f, by simp only; omega, hp⟩, by simp only; omega, ?_⟩
      exact Gn.canon (by first | rfl | (simp [List.append_nil, encE]; done) | (simp [List.append_nil, encE]; rfl)) (by simp [wk]) (by simp [List.length_append]) (by simp [bel_encE, bel_agE, bel_Es, bel_slE, bel_encEO, bel_encPr, belAll_append]) (by simp [bel_encE, bel_agE, bel_Es, bel_slE, bel_encEO, bel_encPr, belAll_append])
end Go.Proofs.YtafongdfnpnneaaGreatDoor

/- Chapter 53: Equal of the reference. -/
set_option maxRecDepth 100000
set_option maxHeartbeats 4000000
set_option linter.all false
namespace Go.Proofs.YtafongdfnpnneaaGreatDoor
open Go.Vm

theorem getE (e : Ev) : getV (encE e) 0 4 = encE e := rfl
theorem eqE {x y : Ev} : (x.k == y.k && (x.a == y.a && (x.b == y.b && (x.c == y.c)))) = decide (x = y) := by
  obtain ⟨k, a, b, c⟩ := x
  obtain ⟨k', a', b', c'⟩ := y
  simp only [Ev.mk.injEq, Bool.decide_and]
  rfl
theorem pc14 (a b : List Ev) (ha : a.length ≤ 4000000000) (hb : b.length ≤ 4000000000) : PC Tryz.prog 14 [slE a, slE b] (.bool (decide (a = b))) := by
  by_cases h1 : a.length = b.length
  case neg =>
    have h1i : ¬ (a.length : Int) = (b.length : Int) := by omega
    have hne : ¬ a = b := fun e => h1 (by rw [e])
    refine PC.walk tok mixed cfg0 Tryz.func14 rfl Tryz.call14 (by simp [bel_encE, bel_agE, belAll_append, bel_slE, bel_encEO, bel_Es, bel_encPr]) (by first | rfl | simp [bel_encE, bel_agE, belAll_append, bel_slE, bel_encEO, bel_Es, bel_encPr]) ?_; simp (maxSteps := 2000000) -implicitDefEqProofs +contextual (disch := first | assumption | omega | decide +kernel) only [push_cast, ↓capI, br2_true, br2_false, frk_tt, frk_tf, frk_f, frkD_tt, frkD_tf, frkD_f, pk2_true, pk2_false, imp_true, seval, Nat.reduceLeDiff, Nat.reduceEqDiff, reduceCtorEq, ↓reduceIte, cfg0, Nat.mul_one, get_flat_part lenE, get_flat0 lenE, getE, len_flat lenE, take_E, beq_dec, Tryz.ntmps14]
    simp (maxSteps := 2000000) -implicitDefEqProofs +contextual (disch := first | assumption | omega | decide +kernel) only [push_cast, ↓capI, br2_true, br2_false, frk_tt, frk_tf, frk_f, frkD_tt, frkD_tf, frkD_f, pk2_true, pk2_false, imp_true, seval, Nat.reduceLeDiff, Nat.reduceEqDiff, reduceCtorEq, ↓reduceIte, cfg0, Nat.mul_one, get_flat_part lenE, get_flat0 lenE, getE, len_flat lenE, take_E, beq_dec, slE]
    refine endK.ret ?_ (by first | rfl | simp [bel_encE, bel_agE, belAll_append, bel_slE, bel_encEO, bel_Es, bel_encPr]); simp [evRes, getT, retV, Tryz.f14,  hne]
  refine PC.walk tok mixed cfg0 Tryz.func14 rfl Tryz.call14 (by simp [bel_encE, bel_agE, belAll_append, bel_slE, bel_encEO, bel_Es, bel_encPr]) (by first | rfl | simp [bel_encE, bel_agE, belAll_append, bel_slE, bel_encEO, bel_Es, bel_encPr]) ?_; simp (maxSteps := 2000000) -implicitDefEqProofs +contextual (disch := first | assumption | omega | decide +kernel) only [push_cast, ↓capI, br2_true, br2_false, frk_tt, frk_tf, frk_f, frkD_tt, frkD_tf, frkD_f, pk2_true, pk2_false, imp_true, seval, Nat.reduceLeDiff, Nat.reduceEqDiff, reduceCtorEq, ↓reduceIte, cfg0, Nat.mul_one, get_flat_part lenE, get_flat0 lenE, getE, len_flat lenE, take_E, beq_dec, Tryz.ntmps14]
  simp (maxSteps := 2000000) -implicitDefEqProofs +contextual (disch := first | assumption | omega | decide +kernel) only [push_cast, ↓capI, br2_true, br2_false, frk_tt, frk_tf, frk_f, frkD_tt, frkD_tf, frkD_f, pk2_true, pk2_false, imp_true, seval, Nat.reduceLeDiff, Nat.reduceEqDiff, reduceCtorEq, ↓reduceIte, cfg0, Nat.mul_one, get_flat_part lenE, get_flat0 lenE, getE, len_flat lenE, take_E, beq_dec, slE, h1]
  refine T.lp tok mixed cfg0 (fun (j : Nat) => kp 2 (dd 3 (sv (.int .i64 j) (dd 20 (nl))))) (fun H0 (j : Nat) => H0) (fun (j : Nat) => j ≤ a.length ∧ decide (a.drop j = b.drop j) = decide (a = b)) (fun (j : Nat) => a.length - j) (0) ?_ ?_ ?_
  · exact ⟨Nat.zero_le _, rfl⟩
  · exact Gn.canon (J := _) (by first | rfl | (simp [List.append_nil]; done) | (simp [List.append_nil]; rfl)) (by simp [wk, slE, putT, kp, dd, sv, nl]) (by simp [List.length_append]) (by simp [bel_encE, bel_agE, belAll_append, bel_slE, bel_encEO, bel_Es, bel_encPr, kp, dd, sv, nl]) (by simp [bel_encE, bel_agE, belAll_append, bel_slE, bel_encEO, bel_Es, bel_encPr])
  intro j ⟨hj, hc⟩
  by_cases hlt : j < a.length
  · have hlt2 : j < b.length := by omega
    obtain ⟨c1, c2⟩ := deq_cons hlt hlt2 hc
    simp (maxSteps := 2000000) -implicitDefEqProofs +contextual (disch := first | assumption | omega | decide +kernel) only [push_cast, ↓capI, br2_true, br2_false, frk_tt, frk_tf, frk_f, frkD_tt, frkD_tf, frkD_f, pk2_true, pk2_false, imp_true, seval, Nat.reduceLeDiff, Nat.reduceEqDiff, reduceCtorEq, ↓reduceIte, cfg0, Nat.mul_one, get_flat_part lenE, get_flat0 lenE, getE, len_flat lenE, take_E, beq_dec, encE, eqE]
    refine ⟨fun he => ?_, fun he => ?_⟩
    · have := of_decide_eq_false (c1 he)
      refine endK.ret ?_ (by first | rfl | simp [bel_encE, bel_agE, belAll_append, bel_slE, bel_encEO, bel_Es, bel_encPr]); simp [evRes, getT, retV, Tryz.f14,  this]
    · refine ⟨j + 1, ⟨by omega, c2 he⟩, by (try simp only); omega, ?_⟩; exact Gn.canon (by first | rfl | (simp [List.append_nil]; rfl)) (by simp [wk, slE]) (by simp [List.length_append]) (by simp [bel_encE, bel_agE, belAll_append, bel_slE, bel_encEO, bel_Es, bel_encPr]) (by simp [bel_encE, bel_agE, belAll_append, bel_slE, bel_encEO, bel_Es, bel_encPr])
  · have hr := deq_end (by omega) (by omega) hc
    have he : a = b := of_decide_eq_true hr
    simp (maxSteps := 2000000) -implicitDefEqProofs +contextual (disch := first | assumption | omega | decide +kernel) only [push_cast, ↓capI, br2_true, br2_false, frk_tt, frk_tf, frk_f, frkD_tt, frkD_tf, frkD_f, pk2_true, pk2_false, imp_true, seval, Nat.reduceLeDiff, Nat.reduceEqDiff, reduceCtorEq, ↓reduceIte, cfg0, Nat.mul_one, get_flat_part lenE, get_flat0 lenE, getE, len_flat lenE, take_E, beq_dec]
    refine endK.ret ?_ (by first | rfl | simp [bel_encE, bel_agE, belAll_append, bel_slE, bel_encEO, bel_Es, bel_encPr]); simp [evRes, getT, retV, Tryz.f14,  he]
end Go.Proofs.YtafongdfnpnneaaGreatDoor

