/-
  Joined by a program from the texts Vm9.
-/
import Derived.Test.YtlbmbbaefncleaaGreatDoorSh
set_option linter.all false
namespace Go.Vm
variable [GlobTab]
section
variable {P:Program} {tt:Nat→TI}
def Tg (P:Program) (n:Nat) (c:Code) (Q:Exit→S→Prop) (s:S):Prop :=
 ∀(O:Nat→Prop) (β:List Pl) (a:Act) (w:World) (β0:List Pl) (w0:World),β0.length≤n→Ext β0 w0 β w→SR O β a w s →
  c.wp P (fun e a' w'=>∃s' β',Q e s'∧SR O β' a' w' s'∧Ext β0 w0 β' w') a w
theorem Tg.of_T {n:Nat} {c:Code} {Q:Exit→S→Prop} {s:S} (h:T P c Q s):Tg P n c Q s:=fun O β a w _ _ _ he hs =>
 wp_mono (h O β a w hs) fun _ _ _ ⟨s',β',h1,h2,h3⟩=>⟨s',β',h1,h2,he.trans h3⟩
theorem Tg.to_T {c:Code} {Q:Exit→S→Prop} {s:S} (h:Tg P s.hp.length c Q s):T P c Q s:=fun O β a w hs =>
 h O β a w β w (by rw [hs.hp.len];exact Nat.le_refl _) (Ext.refl β w) hs
theorem Tg.mono {n:Nat} {c:Code} {Q Q':Exit→S→Prop} {s:S} (h:Tg P n c Q s) (hq:∀e s,Q e s→Q' e s):Tg P n c Q' s:=fun O β a w β0 w0 hn he hs =>
 wp_mono (h O β a w β0 w0 hn he hs) fun _ _ _ ⟨s',β',h1,h2,h3⟩=>⟨s',β',hq _ _ h1,h2,h3⟩
theorem Tg.gn {n:Nat} {c:Code} {Q:Exit→S→Prop} {s s2:S} (g:Gn n s s2) (h:Tg P n c Q s2):Tg P n c Q s:=fun O β a w β0 w0 hn he hs=>by
 obtain ⟨β2,h2,he2⟩:=g O β a w hs
 exact h O β2 a w β0 w0 hn (he2 β0 w0 hn he) h2
theorem Tg.aft {n:Nat} {c:Code} {Q:Exit→S→Prop} {s:S} (h:Tg P n c (fun e s1=>∃s2,Gn n s1 s2∧Q e s2) s):Tg P n c Q s:=fun O β a w β0 w0 hn he hs =>
 wp_mono (h O β a w β0 w0 hn he hs) fun _ a' w' ⟨s',β',⟨s2,g,hq⟩,h2,h3⟩=>by
  obtain ⟨β2,h4,he2⟩:=g O β' a' w' h2
  exact ⟨s2,β2,hq,h4,he2 β0 w0 hn h3⟩
theorem Tg.seq {n:Nat} {x y:Code} {Q:Exit→S→Prop} {s:S} (h:Tg P n x (andThen (Tg P n y Q) Q) s):Tg P n (.seq x y) Q s:=by
 intro O β a w β0 w0 hn he hs
 refine wp_seq (wp_mono (h O β a w β0 w0 hn he hs) ?_)
 rintro e a1 w1 ⟨s1,β1,h1,h2,h3⟩
 cases e<;>simp only [andThen,Exit.then] at h1 ⊢
 case normal=>exact h1 O β1 a1 w1 β0 w0 hn h3 h2
 all_goals exact ⟨s1,β1,h1,h2,h3⟩
def cutK (P:Program) (b:Code) (Q:Exit→S→Prop) (n:Nat):Exit→S→Prop:=fun e s1 =>
 match e with
 | .normal=>Tg P n b Q s1
 | e=>Q e s1
theorem cutK.gn {b:Code} {Q:Exit→S→Prop} {n:Nat} {s1 s2:S} (g:Gn n s1 s2) (h:cutK P b Q n .normal s2):cutK P b Q n .normal s1:=Tg.gn g h
theorem cutK.go {cfg:Cfg} {b:Code} {Q:Exit→S→Prop} {n:Nat} {s1:S} (tok:TOK P tt) (hm:P.follows .mixedOrders=true) (h:ev P tt cfg b Q s1):cutK P b Q n .normal s1:=Tg.of_T (ev_sound tok hm b h)
def cutAt:Nat→Code→Code × Code
 | 0,.seq a b=>(a,b)
 | k+1,.seq a b=>(.seq a (cutAt k b).1,(cutAt k b).2)
 | _,_=>(.goto 0,.skip)
theorem Tg.cut (tok:TOK P tt) (hm:P.follows .mixedOrders=true) (cfg:Cfg) {n:Nat} {Q:Exit→S→Prop}:∀(k:Nat) (c:Code) {s:S},ev P tt cfg (cutAt k c).1 (cutK P (cutAt k c).2 Q n) s→Tg P n c Q s:=by
 intro k
 induction k with
 | zero =>
  intro c s h
  cases c with
  | seq a b=>exact Tg.seq ((Tg.of_T (ev_sound tok hm a h)).mono fun e s1 h1=>by cases e<;>exact h1)
  | _=>exact False.elim (by simp only [cutAt,ev] at h)
 | succ k ih =>
  intro c s h
  cases c with
  | seq a b =>
   refine Tg.seq ((Tg.of_T (ev_sound tok hm a h)).mono fun e s1 h1=>?_)
   cases e
   case normal=>exact ih b h1
   all_goals exact h1
  | _=>exact False.elim (by simp only [cutAt,ev] at h)
theorem GC.cutN (tok:TOK P tt) (hm:P.follows .mixedOrders=true) (cfg:Cfg) (k:Nat) {n:Nat} {fn:Func} {c:Code} {args:List V} {v:V} {G J:List Ob} (hf:P.funcs[n]? = some fn) (hb:fn.body=some c)
  (hc:∀(vals:Array Value) (w:World),(callFunc n vals).run P w=.ok (.enter n vals) w)
  (h:ev P tt cfg (cutAt k c).1 (cutK P (cutAt k c).2 (endG tt fn.results.toList G.length v J) G.length) ⟨args++List.replicate (fn.ntmps-args.length) .dead,G⟩):GCall P n args G v J :=
 GCall.of_T tok hf hb hc (T.aft (Tg.to_T (Tg.cut tok hm cfg k c h)))
theorem PCJ.cutN (tok:TOK P tt) (hm:P.follows .mixedOrders=true) (cfg:Cfg) (k:Nat) {n:Nat} {fn:Func} {c:Code} {args:List V} {v:V} {J:List Ob} (hf:P.funcs[n]? = some fn) (hb:fn.body=some c)
  (hc:∀(vals:Array Value) (w:World),(callFunc n vals).run P w=.ok (.enter n vals) w) (ha:belAll 0 args=true)
  (h:ev P tt cfg (cutAt k c).1 (cutK P (cutAt k c).2 (endJ tt fn.results.toList v J) 0) ⟨args++List.replicate (fn.ntmps-args.length) .dead,[]⟩):PCJ P n args v J :=
 GCall.frame (GCall.of_T tok hf hb hc (T.aft (Tg.to_T (Tg.cut tok hm cfg k c h)))) ha
theorem PC.cutN (tok:TOK P tt) (hm:P.follows .mixedOrders=true) (cfg:Cfg) (k:Nat) {n:Nat} {fn:Func} {c:Code} {args:List V} {v:V} (hf:P.funcs[n]? = some fn) (hb:fn.body=some c)
  (hc:∀(vals:Array Value) (w:World),(callFunc n vals).run P w=.ok (.enter n vals) w) (ha:belAll 0 args=true) (hv:v.bel 0=true)
  (h:ev P tt cfg (cutAt k c).1 (cutK P (cutAt k c).2 (endK tt fn.results.toList v) 0) ⟨args++List.replicate (fn.ntmps-args.length) .dead,[]⟩):PC P n args v :=
 PC.of_T tok hf hb hc ha (T.aft (Tg.to_T (Tg.cut tok hm cfg k c h))) hv
end
theorem cutAt_z {a b:Code}:cutAt 0 (.seq a b)=(a,b):=rfl
theorem cutAt_s {k:Nat} {a b:Code}:cutAt (k+1) (.seq a b)=(.seq a (cutAt k b).1,(cutAt k b).2):=rfl
end Go.Vm
