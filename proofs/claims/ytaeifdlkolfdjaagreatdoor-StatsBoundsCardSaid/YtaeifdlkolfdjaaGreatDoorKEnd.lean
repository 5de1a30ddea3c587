/- The statistics of a state keep their bounds, for every state (law 31, StatsBounds), and reading them twice gives the same, read without the reference; the closed example at its end returns true; the package variables hold at the start what the program's text lays into them. -/
import Derived.Test.YtaeifdlkolfdjaaGreatDoorKSb
import Derived.Test.YtaeifdlkolfdjaaGreatDoorKCo
import Derived.Test.YtaeifdlkolfdjaaGreatDoorKTp7
import Derived.Test.YtaeifdlkolfdjaaGreatDoorKRa
import Derived.Test.YtaeifdlkolfdjaaGreatDoorKDo
section
set_option linter.unusedSimpArgs false
set_option linter.unusedVariables false
namespace Go.AM
open Go Go.Proofs
theorem base_ok(ad off:Nat->Nat)(h1:ad 999=5)(h2:off 999=0): @Base (adrOf ad off):=by letI :Adr:=adrOf ad off;refine⟨pok,λfu args s s' v hg=>asG_ok ad off h1 h2 hg,λfu=>c_sort_ok pok fu,λfu=>c_sortf_ok pok fu,λfu=>c_grow_ok pok fu,λfu args x y ha hg=>?_⟩;cases args with|cons _ _=>cases ha|nil=>have e:y=true:=(Option.some.inj hg).symm;subst e;exact⟨ranAll ad off pok (base0_ok ad off h1 h2),λn=>AV.Le.refl _⟩
theorem dec21(x:TApiMpState):decA [.g 21] [.agg (encU 21 x)]=some x:=by kernel_rfl
theorem law_call(ad off:Nat->Nat)(h1:ad 999=5)(h2:off 999=0)(x:TApiMpState)(hs:L.SzS x):∃blks,@PCall (adrOf ad off) Tryz.prog 3 [.agg (encU 21 x)] (.bool true) blks:=by letI :Adr:=adrOf ad off;obtain⟨r,hr,N,h⟩:=L.bounds x hs;have hr:r=true:=hr;subst hr;have c:=ok3 (base_ok ad off h1 h2) N;exact⟨[],(c [.agg (encU 21 x)] x true (dec21 x) (h N (Nat.le_refl _))).1⟩
end Go.AM
end
section
namespace Go.Proofs.YtaeifdlkolfdjaaGreatDoor
open Go Go.AM
theorem ml {n : Nat} (h : n ≤ maxLen) : n ≤ 9223372036854775807 := Nat.le_trans h (by decide)
theorem szRuns {x : List TApiRun} (h : W71 x) : L.Sz x ∧ ∀ r ∈ x, L.Sz r.Entries := ⟨ml h.1, fun r hr => ml (h.2 r hr).2.1⟩
theorem szV {x : TApiVsView} (h : W73 x) : L.SzV x := ⟨ml h.1.1, szRuns h.2⟩
theorem szViews {x : List TApiVsView} (h : W36 x) : L.Sz x ∧ ∀ v ∈ x, L.SzV v := ⟨ml h.1, fun v hv => szV (h.2 v hv)⟩
theorem szL {x : TApiLvLevels} (h : W27 x) : L.SzL x := ⟨ml h.2.1, fun l hl => szRuns (h.2.2 l hl)⟩
theorem szJ {x : TApiJbJob} (h : W113 x) : L.SzJ x := ⟨ml h.2.2.2.1.1, ml h.2.1.1.1, fun r hr => ml (h.2.1.1.2 r hr).1⟩
theorem szS {x : TApiMpState} (h : W43 x) : L.SzS x :=
  ⟨⟨ml h.1.1.2.1, szL h.1.2.1, ml h.1.2.2.1.1, fun j hj => szJ (h.1.2.2.1.2 j hj)⟩, ⟨ml h.2.2.1.1.2.1, ml h.2.2.1.2.1.2.1, szViews h.2.2.1.2.2.1, szViews h.2.2.1.2.2.2⟩, ml h.2.2.2.1.1⟩
theorem statsBounds : Rows.StatsBoundsCardSaid := statsBounds_card (fun ad off h1 h2 x0 w0 => law_call ad off h1 h2 x0 (szS w0))
end Go.Proofs.YtaeifdlkolfdjaaGreatDoor
end
