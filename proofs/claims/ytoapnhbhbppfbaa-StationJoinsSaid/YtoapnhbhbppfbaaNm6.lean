/- Own work, a part of the proof (Nm6). Conditions: none. -/
import Derived.Test.YtoapnhbhbppfbaaNm5
set_option linter.unusedVariables false
set_option linter.unusedSimpArgs false
namespace Go.Gh
open Go.Proofs
attribute [local irreducible] wpS wpR wpT

/-- One device after the other. -/
def chkL {α : Type} (f : List Str → α → Int) (nm : α → Str) : List Str → List α → Int × List Str
  | names, [] => (0, names)
  | names, x :: r => if f names x = 0 then chkL f nm (names ++ [nm x]) r else (f names x, names)
theorem chkL_step {α : Type} [Inhabited α] {f : List Str → α → Int} {nm : α → Str} {names : List Str} {l : List α} {i : Nat} (hi : i < l.length) :
    chkL f nm names (l.drop i) = if f names (l.getD i default) = 0 then chkL f nm (names ++ [nm (l.getD i default)]) (l.drop (i + 1)) else (f names (l.getD i default), names) := by
  rw [List.drop_eq_getElem_cons hi, chkL, List.getD_eq_getElem?_getD, List.getElem?_eq_getElem hi]
  rfl
theorem getD_mem' {α : Type} [Inhabited α] {l : List α} {i : Nat} (hi : i < l.length) : l.getD i default ∈ l := by
  rw [List.getD_eq_getElem?_getD, List.getElem?_eq_getElem hi]; exact List.getElem_mem _
def genF (nodes : List Str) (names : List Str) (g : Gn) : Int := if goDev nodes names g.nm [g.node] = 0 then (if inR g.least 0 100000 && inR g.most g.least 100000 && inR g.ramp 0 100000 then 0 else 4) else goDev nodes names g.nm [g.node]
def ldF (nodes : List Str) (names : List Str) (g : Ld) : Int := if goDev nodes names g.nm [g.node] = 0 then (if inR g.dem 0 100000 then 0 else 4) else goDev nodes names g.nm [g.node]
def sgF (nodes : List Str) (names : List Str) (g : Sg) : Int := if goDev nodes names g.nm [g.node] = 0 then (if inR g.chg 0 100000 && inR g.dis 0 100000 && inR g.capa 0 100000 then 0 else 4) else goDev nodes names g.nm [g.node]
def swF (nodes : List Str) (names : List Str) (s : Sw) : Int := if goDev nodes names s.nm [s.a, s.b] = 0 then (if s.a = s.b then 3 else 0) else goDev nodes names s.nm [s.a, s.b]
def brF (nodes : List Str) (names : List Str) (b : Br) : Int := if goDev nodes names b.nm [b.frm, b.to] = 0 then (if b.frm = b.to then 3 else goBranch b) else goDev nodes names b.nm [b.frm, b.to]
/-- One result after the other. -/
def andThen (p : Int × List Str) (f : List Str → Int × List Str) : Int × List Str := if p.1 = 0 then f p.2 else p
def goSources (n : Net) (names : List Str) : Int := (andThen (andThen (chkL (genF n.nodes) Gn.nm names n.gens) fun ns => chkL (ldF n.nodes) Ld.nm ns n.loads) fun ns => chkL (sgF n.nodes) Sg.nm ns n.stores).1
def goNet (n : Net) : Int := if small n then (andThen (andThen (chkL goAdd id [] n.nodes) fun ns => chkL (swF n.nodes) Sw.nm ns n.sws) fun ns => andThen (chkL (brF n.nodes) Br.nm ns n.brs) fun ns => (goSources n ns, ns)).1 else 2
/-- The texts of a network are not too long for any machine. -/
structure NetFit (n : Net) : Prop where
  nodes : ∀ s ∈ n.nodes, s.length ≤ 9223372036854775807
  sws : ∀ s ∈ n.sws, s.nm.length ≤ 9223372036854775807
  brs : ∀ s ∈ n.brs, s.nm.length ≤ 9223372036854775807
  gens : ∀ s ∈ n.gens, s.nm.length ≤ 9223372036854775807
  loads : ∀ s ∈ n.loads, s.nm.length ≤ 9223372036854775807
  stores : ∀ s ∈ n.stores, s.nm.length ≤ 9223372036854775807
theorem nr_dev {n : Net} {l : List Str} : True := trivial
end Go.Gh
