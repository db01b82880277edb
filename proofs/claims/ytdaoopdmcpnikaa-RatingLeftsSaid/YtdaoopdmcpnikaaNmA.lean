/- Own work, a part of the proof (NmA). Conditions: none. -/
import Derived.Test.YtdaoopdmcpnikaaGrB
import Derived.Test.YtdaoopdmcpnikaaFw28
set_option linter.unusedVariables false
set_option linter.unusedSimpArgs false
namespace Go.Gh
open Go.Proofs
attribute [local irreducible] wpS wpR wpT

/-! ### Networks as data -/
abbrev Str := List UInt8
abbrev strs (l : List Str) : AV := .vec 1 (l.map AV.str)
structure Sw where
  nm : Str
  a : Str
  b : Str
  brk : Bool
  opn : Bool
  deriving Inhabited, DecidableEq
structure Br where
  nm : Str
  frm : Str
  to : Str
  x : Int
  tap : Int
  shift : Int
  limit : Int
  short : Int
  hold : Int
  deriving Inhabited, DecidableEq
structure Gn where
  nm : Str
  node : Str
  least : Int
  most : Int
  ramp : Int
  deriving Inhabited, DecidableEq
structure Ld where
  nm : Str
  node : Str
  dem : Int
  deriving Inhabited, DecidableEq
structure Sg where
  nm : Str
  node : Str
  chg : Int
  dis : Int
  capa : Int
  deriving Inhabited, DecidableEq
structure Net where
  nodes : List Str
  sws : List Sw
  brs : List Br
  gens : List Gn
  loads : List Ld
  stores : List Sg
  deriving Inhabited, DecidableEq
def Sw.av (s : Sw) : AV := .agg [.str s.nm, .str s.a, .str s.b, .bool s.brk, .bool s.opn]
def Br.av (s : Br) : AV := .agg [.str s.nm, .str s.frm, .str s.to, .int .i64 s.x, .int .i64 s.tap, .int .i64 s.shift, .int .i64 s.limit, .int .i64 s.short, .int .i64 s.hold]
def Gn.av (s : Gn) : AV := .agg [.str s.nm, .str s.node, .int .i64 s.least, .int .i64 s.most, .int .i64 s.ramp]
def Ld.av (s : Ld) : AV := .agg [.str s.nm, .str s.node, .int .i64 s.dem]
def Sg.av (s : Sg) : AV := .agg [.str s.nm, .str s.node, .int .i64 s.chg, .int .i64 s.dis, .int .i64 s.capa]
theorem nr_agg {l : List AV} (h : ∀ y ∈ l, NR y) : NR (.agg l) := .agg _ h
theorem nr_map {α : Type} {el : α → AV} (h : ∀ x, NR (el x)) (es : Nat) (l : List α) : NR (.vec es (l.map el)) := .vec _ _ (by
  intro x hx
  obtain ⟨n, _, rfl⟩ := List.mem_map.1 hx
  exact h n)
theorem nr_strs (l : List Str) : NR (strs l) := nr_map (fun s => .str s) 1 l
theorem Sw.nr (s : Sw) : NR s.av := nr_agg (by intro y hy; simp only [List.mem_cons, List.not_mem_nil, or_false] at hy; rcases hy with rfl | rfl | rfl | rfl | rfl <;> constructor)
theorem Br.nr (s : Br) : NR s.av := nr_agg (by intro y hy; simp only [List.mem_cons, List.not_mem_nil, or_false] at hy; rcases hy with rfl | rfl | rfl | rfl | rfl | rfl | rfl | rfl | rfl <;> constructor)
theorem Gn.nr (s : Gn) : NR s.av := nr_agg (by intro y hy; simp only [List.mem_cons, List.not_mem_nil, or_false] at hy; rcases hy with rfl | rfl | rfl | rfl | rfl <;> constructor)
theorem Ld.nr (s : Ld) : NR s.av := nr_agg (by intro y hy; simp only [List.mem_cons, List.not_mem_nil, or_false] at hy; rcases hy with rfl | rfl | rfl <;> constructor)
theorem Sg.nr (s : Sg) : NR s.av := nr_agg (by intro y hy; simp only [List.mem_cons, List.not_mem_nil, or_false] at hy; rcases hy with rfl | rfl | rfl | rfl | rfl <;> constructor)
theorem elems_map {α : Type} {el : α → AV} {es : Nat} (h : ∀ x, Cellsy es (el x) = True) (l : List α) : Elems es (l.map el) = True := eq_true fun y hy => by
  obtain ⟨x, _, rfl⟩ := List.mem_map.1 hy
  exact of_eq_true (h x)
@[go_sem] theorem Sw.cellsy (s : Sw) : Cellsy 5 s.av = True := by simp [Cellsy, AV.cells, Sw.av, AV.single]
@[go_sem] theorem Sw.elems (l : List Sw) : Elems 5 (l.map Sw.av) = True := elems_map Sw.cellsy l
@[go_sem] theorem Br.cellsy (s : Br) : Cellsy 9 s.av = True := by simp [Cellsy, AV.cells, Br.av, AV.single]
@[go_sem] theorem Br.elems (l : List Br) : Elems 9 (l.map Br.av) = True := elems_map Br.cellsy l
@[go_sem] theorem Gn.cellsy (s : Gn) : Cellsy 5 s.av = True := by simp [Cellsy, AV.cells, Gn.av, AV.single]
@[go_sem] theorem Gn.elems (l : List Gn) : Elems 5 (l.map Gn.av) = True := elems_map Gn.cellsy l
@[go_sem] theorem Ld.cellsy (s : Ld) : Cellsy 3 s.av = True := by simp [Cellsy, AV.cells, Ld.av, AV.single]
@[go_sem] theorem Ld.elems (l : List Ld) : Elems 3 (l.map Ld.av) = True := elems_map Ld.cellsy l
@[go_sem] theorem Sg.cellsy (s : Sg) : Cellsy 5 s.av = True := by simp [Cellsy, AV.cells, Sg.av, AV.single]
@[go_sem] theorem Sg.elems (l : List Sg) : Elems 5 (l.map Sg.av) = True := elems_map Sg.cellsy l
abbrev net (n : Net) : AV := .agg [strs n.nodes, .vec 5 (n.sws.map Sw.av), .vec 9 (n.brs.map Br.av), .vec 5 (n.gens.map Gn.av), .vec 3 (n.loads.map Ld.av), .vec 5 (n.stores.map Sg.av)]
theorem nr_net (n : Net) : NR (net n) := nr_agg (by
  intro y hy
  simp only [List.mem_cons, List.not_mem_nil, or_false] at hy
  rcases hy with rfl | rfl | rfl | rfl | rfl | rfl
  · exact nr_strs _
  · exact nr_map Sw.nr _ _
  · exact nr_map Br.nr _ _
  · exact nr_map Gn.nr _ _
  · exact nr_map Ld.nr _ _
  · exact nr_map Sg.nr _ _)
theorem c_indexStr (xs : List Str) (v : Str) : PC Try.prog 41 [.vec 1 (xs.map AV.str), AV.str v] (.int .i64 (goFind (fun x => decide (v = x)) xs)) := by
  refine PC.runF Try.func41 rfl (by kernel_rfl) (by simp [Try.ntmps41]) fun hF => ?_
  have la : xs.length ≤ 9223372036854775807 := by simpa using (hF _ (by simp) : Fit (.vec 1 (xs.map AV.str))).vec
  rw [Try.ntmps41]
  (refine M_reg (h := ?_))
  (refine M_reg (h := ?_))
  (repeat (first | refine S_seq ?_ | refine S_block ?_ | refine S_blk ?_ | refine S_skip ?_))
  refine S_loop (fun n : Nat => ⟨19, [(0, .vec 1 (xs.map AV.str)), (1, AV.str v), (7, .int .i64 xs.length), (8, .int .i64 (n : Int))], ⟨[], 0⟩⟩) (fun n => n ≤ xs.length ∧ ∀ j, j < n → (decide (v = xs.getD j default)) = false) (fun n => xs.length - n) 0 ?_ ⟨Nat.zero_le _, fun j h => absurd h (by omega)⟩ ?_
  · ((refine wk_slots ?_; simp only [List.forall_mem_cons, List.not_mem_nil, false_implies, implies_true, look_cons, cast0, ↓reduceIte, Nat.reduceEqDiff, reduceCtorEq, and_true, true_and, and_self]))
  · rintro n ⟨hn, hc⟩
    (refine M_reg (h := ?_))
    (refine M_cnd (ht := ?_) (hf := ?_))
    · intro h0
      have hg : (xs.map AV.str).getD n .undef = AV.str (xs.getD n default) := getD_map (by omega)
      (refine M_reg (h := ?_))
      (refine M_reg (he := by ((simp (disch := first | omega | (simp only [List.length_cons, List.length_nil, Nat.reduceAdd]; done)) only [go_sem, ↓reduceIte, Nat.reduceLT, Nat.reduceAdd, Nat.reduceMul, Nat.reduceSub, Nat.reduceEqDiff, reduceCtorEq, Int.reduceToNat, Nat.reducePow, Int.reduceNeg, Int.reduceSub, Int.reduceAdd, Int.reduceMul, hg]); rfl)) (h := ?_))
      (refine M_cnd (ht := ?_) (hf := ?_))
      · intro h1
        (refine M_reg (h := ?_))
        (refine M_fin Try.results41 (h2 := ?_))
        rw [goFind_some (i := n) (by omega) (by simpa using h1) hc]
        exact .nr _ (.int _ _)
      · intro h1
        (refine M_reg (h := ?_))
        refine S_goal ⟨n + 1, ?_, ⟨by omega, fun j hj => ?_⟩, by omega⟩
        · ((refine wk_slots ?_; simp only [List.forall_mem_cons, List.not_mem_nil, false_implies, implies_true, look_cons, cast0, ↓reduceIte, Nat.reduceEqDiff, reduceCtorEq, and_true, true_and, and_self]))
        · by_cases e : j = n
          · subst e; simpa using h1
          · exact hc j (by omega)
    · intro h0
      (refine M_out (h := ?_))
      (refine M_reg (h := ?_))
      (refine M_fin Try.results41 (h2 := ?_))
      rw [goFind_none fun j hj => hc j (by omega)]
      exact .nr _ (.int _ _)
theorem c_containsStr (xs : List Str) (v : Str) : PC Try.prog 15 [.vec 1 (xs.map AV.str), AV.str v] (.bool (xs.any fun x => decide (v = x))) := by
  refine PC.run Try.func15 rfl (by kernel_rfl) (by simp [Try.ntmps15]) ?_
  rw [Try.ntmps15]
  (refine M_reg (h := ?_))
  (refine M_pre (h := ?_))
  (refine M_call (hp := (c_indexStr xs v)) (hn := (nr2 (nr_strs xs) (by constructor))) (h := ?_))
  (refine M_post (h := ?_))
  (refine M_fin Try.results15 (h2 := ?_))
  rw [show (decide (goFind (fun x => decide (v = x)) xs ≥ 0)) = _ from goFind_any _ _]
  exact .nr _ (.bool _)
theorem c_indexSw (xs : List Sw) (p : Sw → Bool) (f : Nat) (cap : List AV) (hcap : ∀ y ∈ cap, NR y) (hp : ∀ x ∈ xs, PC Try.prog f ([Sw.av x] ++ cap) (.bool (p x))) (hel : ∀ x, NR (Sw.av x)) :
    PC Try.prog 46 [.vec 5 (xs.map Sw.av), .fn f cap] (.int .i64 (goFind p xs)) := by
  refine PC.runF Try.func46 rfl (by kernel_rfl) (by simp [Try.ntmps46]) fun hF => ?_
  have la : xs.length ≤ 9223372036854775807 := by simpa using (hF _ (by simp) : Fit (.vec 5 (xs.map Sw.av))).vec
  rw [Try.ntmps46]
  (refine M_reg (h := ?_))
  (refine M_reg (h := ?_))
  (repeat (first | refine S_seq ?_ | refine S_block ?_ | refine S_blk ?_ | refine S_skip ?_))
  refine S_loop (fun n : Nat => ⟨19, [(0, .vec 5 (xs.map Sw.av)), (1, .fn f cap), (7, .int .i64 xs.length), (8, .int .i64 (n : Int))], ⟨[], 0⟩⟩) (fun n => n ≤ xs.length ∧ ∀ j, j < n → p (xs.getD j default) = false) (fun n => xs.length - n) 0 ?_ ⟨Nat.zero_le _, fun j h => absurd h (by omega)⟩ ?_
  · ((refine wk_slots ?_; simp only [List.forall_mem_cons, List.not_mem_nil, false_implies, implies_true, look_cons, cast0, ↓reduceIte, Nat.reduceEqDiff, reduceCtorEq, and_true, true_and, and_self]))
  · rintro n ⟨hn, hc⟩
    (refine M_reg (h := ?_))
    (refine M_cnd (ht := ?_) (hf := ?_))
    · intro h0
      have hmem : xs.getD n default ∈ xs := by
        rw [List.getD_eq_getElem?_getD, List.getElem?_eq_getElem (by omega)]; exact List.getElem_mem _
      have hg : (xs.map Sw.av).getD n .undef = Sw.av (xs.getD n default) := getD_map (by omega)
      (refine M_reg (h := ?_))
      (refine M_pre (he := by ((simp (disch := first | omega | (simp only [List.length_cons, List.length_nil, Nat.reduceAdd]; done)) only [go_sem, ↓reduceIte, Nat.reduceLT, Nat.reduceAdd, Nat.reduceMul, Nat.reduceSub, Nat.reduceEqDiff, reduceCtorEq, Int.reduceToNat, Nat.reducePow, Int.reduceNeg, Int.reduceSub, Int.reduceAdd, Int.reduceMul, hg, Sw.av]); rfl)) (h := ?_))
      (refine M_call (ha := by ((simp (disch := first | omega | (simp only [List.length_cons, List.length_nil, Nat.reduceAdd]; done)) only [go_sem, ↓reduceIte, Nat.reduceLT, Nat.reduceAdd, Nat.reduceMul, Nat.reduceSub, Nat.reduceEqDiff, reduceCtorEq, Int.reduceToNat, Nat.reducePow, Int.reduceNeg, Int.reduceSub, Int.reduceAdd, Int.reduceMul, Sw.av]) <;> rfl)) (hp := (hp _ hmem)) (hn := (nr_app (nr1 (hel _)) hcap)) (h := ?_))
      (refine M_post (h := ?_))
      refine S_cond (t := p (xs.getD n default)) (by (simp (disch := first | omega | (simp only [List.length_cons, List.length_nil, Nat.reduceAdd]; done)) only [go_sem, ↓reduceIte, Nat.reduceLT, Nat.reduceAdd, Nat.reduceMul, Nat.reduceSub, Nat.reduceEqDiff, reduceCtorEq, Int.reduceToNat, Nat.reducePow, Int.reduceNeg, Int.reduceSub, Int.reduceAdd, Int.reduceMul]) <;> rfl) (fun h1 => ?_) (fun h1 => ?_)
      · (refine M_reg (h := ?_))
        (refine M_fin Try.results46 (h2 := ?_))
        rw [goFind_some (i := n) (by omega) (by exact h1) hc]
        exact .nr _ (.int _ _)
      · (refine M_reg (h := ?_))
        refine S_goal ⟨n + 1, ?_, ⟨by omega, fun j hj => ?_⟩, by omega⟩
        · ((refine wk_slots ?_; simp only [List.forall_mem_cons, List.not_mem_nil, false_implies, implies_true, look_cons, cast0, ↓reduceIte, Nat.reduceEqDiff, reduceCtorEq, and_true, true_and, and_self]))
        · by_cases e : j = n
          · subst e; exact h1
          · exact hc j (by omega)
    · intro h0
      (refine M_out (h := ?_))
      (refine M_reg (h := ?_))
      (refine M_fin Try.results46 (h2 := ?_))
      rw [goFind_none fun j hj => hc j (by omega)]
      exact .nr _ (.int _ _)
end Go.Gh

set_option linter.unusedVariables false
set_option linter.unusedSimpArgs false
namespace Go.Gh
open Go.Proofs
attribute [local irreducible] wpS wpR wpT

theorem c_cloneStr (xs : List Str) (hel : ∀ x, NR (AV.str x)) (hb : xs.length ≤ 4294967296) : PC Try.prog 58 [.vec 1 (xs.map AV.str)] (.vec 1 (xs.map AV.str)) := by
  refine PC.run Try.func58 rfl (by kernel_rfl) (by simp [Try.ntmps58]) ?_
  rw [Try.ntmps58]
  (refine M_reg (h := ?_))
  by_cases hx : xs = []
  · subst hx
    (refine M_part 1 (h := ?_))
    refine T_isnil (by (simp (disch := first | omega | (simp only [List.length_cons, List.length_nil, Nat.reduceAdd]; done)) only [go_sem, ↓reduceIte, Nat.reduceLT, Nat.reduceAdd, Nat.reduceMul, Nat.reduceSub, Nat.reduceEqDiff, reduceCtorEq, Int.reduceToNat, Nat.reducePow, Int.reduceNeg, Int.reduceSub, Int.reduceAdd, Int.reduceMul]) <;> rfl) (by (simp (disch := first | omega | (simp only [List.length_cons, List.length_nil, Nat.reduceAdd]; done)) only [go_sem, ↓reduceIte, Nat.reduceLT, Nat.reduceAdd, Nat.reduceMul, Nat.reduceSub, Nat.reduceEqDiff, reduceCtorEq, Int.reduceToNat, Nat.reducePow, Int.reduceNeg, Int.reduceSub, Int.reduceAdd, Int.reduceMul]) <;> rfl) (by (simp (disch := first | omega | (simp only [List.length_cons, List.length_nil, Nat.reduceAdd]; done)) only [go_sem, ↓reduceIte, Nat.reduceLT, Nat.reduceAdd, Nat.reduceMul, Nat.reduceSub, Nat.reduceEqDiff, reduceCtorEq, Int.reduceToNat, Nat.reducePow, Int.reduceNeg, Int.reduceSub, Int.reduceAdd, Int.reduceMul]) <;> rfl) (by (simp (disch := first | omega | (simp only [List.length_cons, List.length_nil, Nat.reduceAdd]; done)) only [go_sem, ↓reduceIte, Nat.reduceLT, Nat.reduceAdd, Nat.reduceMul, Nat.reduceSub, Nat.reduceEqDiff, reduceCtorEq, Int.reduceToNat, Nat.reducePow, Int.reduceNeg, Int.reduceSub, Int.reduceAdd, Int.reduceMul]) <;> rfl) (by (simp (disch := first | omega | (simp only [List.length_cons, List.length_nil, Nat.reduceAdd]; done)) only [go_sem, ↓reduceIte, Nat.reduceLT, Nat.reduceAdd, Nat.reduceMul, Nat.reduceSub, Nat.reduceEqDiff, reduceCtorEq, Int.reduceToNat, Nat.reducePow, Int.reduceNeg, Int.reduceSub, Int.reduceAdd, Int.reduceMul])) (by (simp (disch := first | omega | (simp only [List.length_cons, List.length_nil, Nat.reduceAdd]; done)) only [go_sem, ↓reduceIte, Nat.reduceLT, Nat.reduceAdd, Nat.reduceMul, Nat.reduceSub, Nat.reduceEqDiff, reduceCtorEq, Int.reduceToNat, Nat.reducePow, Int.reduceNeg, Int.reduceSub, Int.reduceAdd, Int.reduceMul]) <;> rfl) fun b => ?_
    (refine M_post (h := ?_))
    refine S_cond (t := b) (by (simp (disch := first | omega | (simp only [List.length_cons, List.length_nil, Nat.reduceAdd]; done)) only [go_sem, ↓reduceIte, Nat.reduceLT, Nat.reduceAdd, Nat.reduceMul, Nat.reduceSub, Nat.reduceEqDiff, reduceCtorEq, Int.reduceToNat, Nat.reducePow, Int.reduceNeg, Int.reduceSub, Int.reduceAdd, Int.reduceMul]) <;> rfl) (fun h1 => ?_) (fun h1 => ?_)
    · (refine M_reg (h := ?_))
      (refine M_fin Try.results58 (h2 := ?_))
      exact .nil _
    · (repeat (first | refine S_seq ?_ | refine S_block ?_ | refine S_blk ?_ | refine S_skip ?_))
      (refine M_part 0 (h := ?_))
      (refine M_own (h := ?_))
      (refine M_post (h := ?_))
      (refine M_fin Try.results58 (h2 := ?_))
      exact .whole rfl (by simp) (by simp)
  · obtain ⟨x0, r0, rfl⟩ : ∃ a r, xs = a :: r := List.exists_cons_of_ne_nil hx
    rw [List.length_cons] at hb
    (refine M_reg (h := ?_))
    (refine M_no (h := ?_))
    (refine M_part 0 (h := ?_))
    (refine M_own (h := ?_))
    (refine M_post (h := ?_))
    (refine M_fin Try.results58 (h2 := ?_))
    exact .whole rfl (by intro x hx; obtain ⟨n, _, rfl⟩ := List.mem_map.1 hx; exact hel n) (by simp)
theorem c_cloneInt (xs : List Int) (hel : ∀ x, NR ((AV.int .i64) x)) (hb : xs.length ≤ 4294967296) : PC Try.prog 48 [.vec 1 (xs.map (AV.int .i64))] (.vec 1 (xs.map (AV.int .i64))) := by
  refine PC.run Try.func48 rfl (by kernel_rfl) (by simp [Try.ntmps48]) ?_
  rw [Try.ntmps48]
  (refine M_reg (h := ?_))
  by_cases hx : xs = []
  · subst hx
    (refine M_part 1 (h := ?_))
    refine T_isnil (by (simp (disch := first | omega | (simp only [List.length_cons, List.length_nil, Nat.reduceAdd]; done)) only [go_sem, ↓reduceIte, Nat.reduceLT, Nat.reduceAdd, Nat.reduceMul, Nat.reduceSub, Nat.reduceEqDiff, reduceCtorEq, Int.reduceToNat, Nat.reducePow, Int.reduceNeg, Int.reduceSub, Int.reduceAdd, Int.reduceMul]) <;> rfl) (by (simp (disch := first | omega | (simp only [List.length_cons, List.length_nil, Nat.reduceAdd]; done)) only [go_sem, ↓reduceIte, Nat.reduceLT, Nat.reduceAdd, Nat.reduceMul, Nat.reduceSub, Nat.reduceEqDiff, reduceCtorEq, Int.reduceToNat, Nat.reducePow, Int.reduceNeg, Int.reduceSub, Int.reduceAdd, Int.reduceMul]) <;> rfl) (by (simp (disch := first | omega | (simp only [List.length_cons, List.length_nil, Nat.reduceAdd]; done)) only [go_sem, ↓reduceIte, Nat.reduceLT, Nat.reduceAdd, Nat.reduceMul, Nat.reduceSub, Nat.reduceEqDiff, reduceCtorEq, Int.reduceToNat, Nat.reducePow, Int.reduceNeg, Int.reduceSub, Int.reduceAdd, Int.reduceMul]) <;> rfl) (by (simp (disch := first | omega | (simp only [List.length_cons, List.length_nil, Nat.reduceAdd]; done)) only [go_sem, ↓reduceIte, Nat.reduceLT, Nat.reduceAdd, Nat.reduceMul, Nat.reduceSub, Nat.reduceEqDiff, reduceCtorEq, Int.reduceToNat, Nat.reducePow, Int.reduceNeg, Int.reduceSub, Int.reduceAdd, Int.reduceMul]) <;> rfl) (by (simp (disch := first | omega | (simp only [List.length_cons, List.length_nil, Nat.reduceAdd]; done)) only [go_sem, ↓reduceIte, Nat.reduceLT, Nat.reduceAdd, Nat.reduceMul, Nat.reduceSub, Nat.reduceEqDiff, reduceCtorEq, Int.reduceToNat, Nat.reducePow, Int.reduceNeg, Int.reduceSub, Int.reduceAdd, Int.reduceMul])) (by (simp (disch := first | omega | (simp only [List.length_cons, List.length_nil, Nat.reduceAdd]; done)) only [go_sem, ↓reduceIte, Nat.reduceLT, Nat.reduceAdd, Nat.reduceMul, Nat.reduceSub, Nat.reduceEqDiff, reduceCtorEq, Int.reduceToNat, Nat.reducePow, Int.reduceNeg, Int.reduceSub, Int.reduceAdd, Int.reduceMul]) <;> rfl) fun b => ?_
    (refine M_post (h := ?_))
    refine S_cond (t := b) (by (simp (disch := first | omega | (simp only [List.length_cons, List.length_nil, Nat.reduceAdd]; done)) only [go_sem, ↓reduceIte, Nat.reduceLT, Nat.reduceAdd, Nat.reduceMul, Nat.reduceSub, Nat.reduceEqDiff, reduceCtorEq, Int.reduceToNat, Nat.reducePow, Int.reduceNeg, Int.reduceSub, Int.reduceAdd, Int.reduceMul]) <;> rfl) (fun h1 => ?_) (fun h1 => ?_)
    · (refine M_reg (h := ?_))
      (refine M_fin Try.results48 (h2 := ?_))
      exact .nil _
    · (repeat (first | refine S_seq ?_ | refine S_block ?_ | refine S_blk ?_ | refine S_skip ?_))
      (refine M_part 0 (h := ?_))
      (refine M_own (h := ?_))
      (refine M_post (h := ?_))
      (refine M_fin Try.results48 (h2 := ?_))
      exact .whole rfl (by simp) (by simp)
  · obtain ⟨x0, r0, rfl⟩ : ∃ a r, xs = a :: r := List.exists_cons_of_ne_nil hx
    rw [List.length_cons] at hb
    (refine M_reg (h := ?_))
    (refine M_no (h := ?_))
    (refine M_part 0 (h := ?_))
    (refine M_own (h := ?_))
    (refine M_post (h := ?_))
    (refine M_fin Try.results48 (h2 := ?_))
    exact .whole rfl (by intro x hx; obtain ⟨n, _, rfl⟩ := List.mem_map.1 hx; exact hel n) (by simp)
theorem c_cloneSw (xs : List Sw) (hel : ∀ x, NR (Sw.av x)) (hb : xs.length ≤ 4294967296) : PC Try.prog 59 [.vec 5 (xs.map Sw.av)] (.vec 5 (xs.map Sw.av)) := by
  refine PC.run Try.func59 rfl (by kernel_rfl) (by simp [Try.ntmps59]) ?_
  rw [Try.ntmps59]
  (refine M_reg (h := ?_))
  by_cases hx : xs = []
  · subst hx
    (refine M_part 1 (h := ?_))
    refine T_isnil (by (simp (disch := first | omega | (simp only [List.length_cons, List.length_nil, Nat.reduceAdd]; done)) only [go_sem, ↓reduceIte, Nat.reduceLT, Nat.reduceAdd, Nat.reduceMul, Nat.reduceSub, Nat.reduceEqDiff, reduceCtorEq, Int.reduceToNat, Nat.reducePow, Int.reduceNeg, Int.reduceSub, Int.reduceAdd, Int.reduceMul]) <;> rfl) (by (simp (disch := first | omega | (simp only [List.length_cons, List.length_nil, Nat.reduceAdd]; done)) only [go_sem, ↓reduceIte, Nat.reduceLT, Nat.reduceAdd, Nat.reduceMul, Nat.reduceSub, Nat.reduceEqDiff, reduceCtorEq, Int.reduceToNat, Nat.reducePow, Int.reduceNeg, Int.reduceSub, Int.reduceAdd, Int.reduceMul]) <;> rfl) (by (simp (disch := first | omega | (simp only [List.length_cons, List.length_nil, Nat.reduceAdd]; done)) only [go_sem, ↓reduceIte, Nat.reduceLT, Nat.reduceAdd, Nat.reduceMul, Nat.reduceSub, Nat.reduceEqDiff, reduceCtorEq, Int.reduceToNat, Nat.reducePow, Int.reduceNeg, Int.reduceSub, Int.reduceAdd, Int.reduceMul]) <;> rfl) (by (simp (disch := first | omega | (simp only [List.length_cons, List.length_nil, Nat.reduceAdd]; done)) only [go_sem, ↓reduceIte, Nat.reduceLT, Nat.reduceAdd, Nat.reduceMul, Nat.reduceSub, Nat.reduceEqDiff, reduceCtorEq, Int.reduceToNat, Nat.reducePow, Int.reduceNeg, Int.reduceSub, Int.reduceAdd, Int.reduceMul]) <;> rfl) (by (simp (disch := first | omega | (simp only [List.length_cons, List.length_nil, Nat.reduceAdd]; done)) only [go_sem, ↓reduceIte, Nat.reduceLT, Nat.reduceAdd, Nat.reduceMul, Nat.reduceSub, Nat.reduceEqDiff, reduceCtorEq, Int.reduceToNat, Nat.reducePow, Int.reduceNeg, Int.reduceSub, Int.reduceAdd, Int.reduceMul])) (by (simp (disch := first | omega | (simp only [List.length_cons, List.length_nil, Nat.reduceAdd]; done)) only [go_sem, ↓reduceIte, Nat.reduceLT, Nat.reduceAdd, Nat.reduceMul, Nat.reduceSub, Nat.reduceEqDiff, reduceCtorEq, Int.reduceToNat, Nat.reducePow, Int.reduceNeg, Int.reduceSub, Int.reduceAdd, Int.reduceMul]) <;> rfl) fun b => ?_
    (refine M_post (h := ?_))
    refine S_cond (t := b) (by (simp (disch := first | omega | (simp only [List.length_cons, List.length_nil, Nat.reduceAdd]; done)) only [go_sem, ↓reduceIte, Nat.reduceLT, Nat.reduceAdd, Nat.reduceMul, Nat.reduceSub, Nat.reduceEqDiff, reduceCtorEq, Int.reduceToNat, Nat.reducePow, Int.reduceNeg, Int.reduceSub, Int.reduceAdd, Int.reduceMul]) <;> rfl) (fun h1 => ?_) (fun h1 => ?_)
    · (refine M_reg (h := ?_))
      (refine M_fin Try.results59 (h2 := ?_))
      exact .nil _
    · (repeat (first | refine S_seq ?_ | refine S_block ?_ | refine S_blk ?_ | refine S_skip ?_))
      (refine M_part 0 (h := ?_))
      (refine M_own (h := ?_))
      (refine M_post (h := ?_))
      (refine M_fin Try.results59 (h2 := ?_))
      exact .whole rfl (by simp) (by simp)
  · obtain ⟨x0, r0, rfl⟩ : ∃ a r, xs = a :: r := List.exists_cons_of_ne_nil hx
    rw [List.length_cons] at hb
    (refine M_reg (h := ?_))
    (refine M_no (h := ?_))
    (refine M_part 0 (h := ?_))
    (refine M_own (h := ?_))
    (refine M_post (h := ?_))
    (refine M_fin Try.results59 (h2 := ?_))
    exact .whole rfl (by intro x hx; obtain ⟨n, _, rfl⟩ := List.mem_map.1 hx; exact hel n) (by simp)
theorem c_cloneBr (xs : List Br) (hel : ∀ x, NR (Br.av x)) (hb : xs.length ≤ 4294967296) : PC Try.prog 60 [.vec 9 (xs.map Br.av)] (.vec 9 (xs.map Br.av)) := by
  refine PC.run Try.func60 rfl (by kernel_rfl) (by simp [Try.ntmps60]) ?_
  rw [Try.ntmps60]
  (refine M_reg (h := ?_))
  by_cases hx : xs = []
  · subst hx
    (refine M_part 1 (h := ?_))
    refine T_isnil (by (simp (disch := first | omega | (simp only [List.length_cons, List.length_nil, Nat.reduceAdd]; done)) only [go_sem, ↓reduceIte, Nat.reduceLT, Nat.reduceAdd, Nat.reduceMul, Nat.reduceSub, Nat.reduceEqDiff, reduceCtorEq, Int.reduceToNat, Nat.reducePow, Int.reduceNeg, Int.reduceSub, Int.reduceAdd, Int.reduceMul]) <;> rfl) (by (simp (disch := first | omega | (simp only [List.length_cons, List.length_nil, Nat.reduceAdd]; done)) only [go_sem, ↓reduceIte, Nat.reduceLT, Nat.reduceAdd, Nat.reduceMul, Nat.reduceSub, Nat.reduceEqDiff, reduceCtorEq, Int.reduceToNat, Nat.reducePow, Int.reduceNeg, Int.reduceSub, Int.reduceAdd, Int.reduceMul]) <;> rfl) (by (simp (disch := first | omega | (simp only [List.length_cons, List.length_nil, Nat.reduceAdd]; done)) only [go_sem, ↓reduceIte, Nat.reduceLT, Nat.reduceAdd, Nat.reduceMul, Nat.reduceSub, Nat.reduceEqDiff, reduceCtorEq, Int.reduceToNat, Nat.reducePow, Int.reduceNeg, Int.reduceSub, Int.reduceAdd, Int.reduceMul]) <;> rfl) (by (simp (disch := first | omega | (simp only [List.length_cons, List.length_nil, Nat.reduceAdd]; done)) only [go_sem, ↓reduceIte, Nat.reduceLT, Nat.reduceAdd, Nat.reduceMul, Nat.reduceSub, Nat.reduceEqDiff, reduceCtorEq, Int.reduceToNat, Nat.reducePow, Int.reduceNeg, Int.reduceSub, Int.reduceAdd, Int.reduceMul]) <;> rfl) (by (simp (disch := first | omega | (simp only [List.length_cons, List.length_nil, Nat.reduceAdd]; done)) only [go_sem, ↓reduceIte, Nat.reduceLT, Nat.reduceAdd, Nat.reduceMul, Nat.reduceSub, Nat.reduceEqDiff, reduceCtorEq, Int.reduceToNat, Nat.reducePow, Int.reduceNeg, Int.reduceSub, Int.reduceAdd, Int.reduceMul])) (by (simp (disch := first | omega | (simp only [List.length_cons, List.length_nil, Nat.reduceAdd]; done)) only [go_sem, ↓reduceIte, Nat.reduceLT, Nat.reduceAdd, Nat.reduceMul, Nat.reduceSub, Nat.reduceEqDiff, reduceCtorEq, Int.reduceToNat, Nat.reducePow, Int.reduceNeg, Int.reduceSub, Int.reduceAdd, Int.reduceMul]) <;> rfl) fun b => ?_
    (refine M_post (h := ?_))
    refine S_cond (t := b) (by (simp (disch := first | omega | (simp only [List.length_cons, List.length_nil, Nat.reduceAdd]; done)) only [go_sem, ↓reduceIte, Nat.reduceLT, Nat.reduceAdd, Nat.reduceMul, Nat.reduceSub, Nat.reduceEqDiff, reduceCtorEq, Int.reduceToNat, Nat.reducePow, Int.reduceNeg, Int.reduceSub, Int.reduceAdd, Int.reduceMul]) <;> rfl) (fun h1 => ?_) (fun h1 => ?_)
    · (refine M_reg (h := ?_))
      (refine M_fin Try.results60 (h2 := ?_))
      exact .nil _
    · (repeat (first | refine S_seq ?_ | refine S_block ?_ | refine S_blk ?_ | refine S_skip ?_))
      (refine M_part 0 (h := ?_))
      (refine M_own (h := ?_))
      (refine M_post (h := ?_))
      (refine M_fin Try.results60 (h2 := ?_))
      exact .whole rfl (by simp) (by simp)
  · obtain ⟨x0, r0, rfl⟩ : ∃ a r, xs = a :: r := List.exists_cons_of_ne_nil hx
    rw [List.length_cons] at hb
    (refine M_reg (h := ?_))
    (refine M_no (h := ?_))
    (refine M_part 0 (h := ?_))
    (refine M_own (h := ?_))
    (refine M_post (h := ?_))
    (refine M_fin Try.results60 (h2 := ?_))
    exact .whole rfl (by intro x hx; obtain ⟨n, _, rfl⟩ := List.mem_map.1 hx; exact hel n) (by simp)
theorem c_cloneGn (xs : List Gn) (hel : ∀ x, NR (Gn.av x)) (hb : xs.length ≤ 4294967296) : PC Try.prog 61 [.vec 5 (xs.map Gn.av)] (.vec 5 (xs.map Gn.av)) := by
  refine PC.run Try.func61 rfl (by kernel_rfl) (by simp [Try.ntmps61]) ?_
  rw [Try.ntmps61]
  (refine M_reg (h := ?_))
  by_cases hx : xs = []
  · subst hx
    (refine M_part 1 (h := ?_))
    refine T_isnil (by (simp (disch := first | omega | (simp only [List.length_cons, List.length_nil, Nat.reduceAdd]; done)) only [go_sem, ↓reduceIte, Nat.reduceLT, Nat.reduceAdd, Nat.reduceMul, Nat.reduceSub, Nat.reduceEqDiff, reduceCtorEq, Int.reduceToNat, Nat.reducePow, Int.reduceNeg, Int.reduceSub, Int.reduceAdd, Int.reduceMul]) <;> rfl) (by (simp (disch := first | omega | (simp only [List.length_cons, List.length_nil, Nat.reduceAdd]; done)) only [go_sem, ↓reduceIte, Nat.reduceLT, Nat.reduceAdd, Nat.reduceMul, Nat.reduceSub, Nat.reduceEqDiff, reduceCtorEq, Int.reduceToNat, Nat.reducePow, Int.reduceNeg, Int.reduceSub, Int.reduceAdd, Int.reduceMul]) <;> rfl) (by (simp (disch := first | omega | (simp only [List.length_cons, List.length_nil, Nat.reduceAdd]; done)) only [go_sem, ↓reduceIte, Nat.reduceLT, Nat.reduceAdd, Nat.reduceMul, Nat.reduceSub, Nat.reduceEqDiff, reduceCtorEq, Int.reduceToNat, Nat.reducePow, Int.reduceNeg, Int.reduceSub, Int.reduceAdd, Int.reduceMul]) <;> rfl) (by (simp (disch := first | omega | (simp only [List.length_cons, List.length_nil, Nat.reduceAdd]; done)) only [go_sem, ↓reduceIte, Nat.reduceLT, Nat.reduceAdd, Nat.reduceMul, Nat.reduceSub, Nat.reduceEqDiff, reduceCtorEq, Int.reduceToNat, Nat.reducePow, Int.reduceNeg, Int.reduceSub, Int.reduceAdd, Int.reduceMul]) <;> rfl) (by (simp (disch := first | omega | (simp only [List.length_cons, List.length_nil, Nat.reduceAdd]; done)) only [go_sem, ↓reduceIte, Nat.reduceLT, Nat.reduceAdd, Nat.reduceMul, Nat.reduceSub, Nat.reduceEqDiff, reduceCtorEq, Int.reduceToNat, Nat.reducePow, Int.reduceNeg, Int.reduceSub, Int.reduceAdd, Int.reduceMul])) (by (simp (disch := first | omega | (simp only [List.length_cons, List.length_nil, Nat.reduceAdd]; done)) only [go_sem, ↓reduceIte, Nat.reduceLT, Nat.reduceAdd, Nat.reduceMul, Nat.reduceSub, Nat.reduceEqDiff, reduceCtorEq, Int.reduceToNat, Nat.reducePow, Int.reduceNeg, Int.reduceSub, Int.reduceAdd, Int.reduceMul]) <;> rfl) fun b => ?_
    (refine M_post (h := ?_))
    refine S_cond (t := b) (by (simp (disch := first | omega | (simp only [List.length_cons, List.length_nil, Nat.reduceAdd]; done)) only [go_sem, ↓reduceIte, Nat.reduceLT, Nat.reduceAdd, Nat.reduceMul, Nat.reduceSub, Nat.reduceEqDiff, reduceCtorEq, Int.reduceToNat, Nat.reducePow, Int.reduceNeg, Int.reduceSub, Int.reduceAdd, Int.reduceMul]) <;> rfl) (fun h1 => ?_) (fun h1 => ?_)
    · (refine M_reg (h := ?_))
      (refine M_fin Try.results61 (h2 := ?_))
      exact .nil _
    · (repeat (first | refine S_seq ?_ | refine S_block ?_ | refine S_blk ?_ | refine S_skip ?_))
      (refine M_part 0 (h := ?_))
      (refine M_own (h := ?_))
      (refine M_post (h := ?_))
      (refine M_fin Try.results61 (h2 := ?_))
      exact .whole rfl (by simp) (by simp)
  · obtain ⟨x0, r0, rfl⟩ : ∃ a r, xs = a :: r := List.exists_cons_of_ne_nil hx
    rw [List.length_cons] at hb
    (refine M_reg (h := ?_))
    (refine M_no (h := ?_))
    (refine M_part 0 (h := ?_))
    (refine M_own (h := ?_))
    (refine M_post (h := ?_))
    (refine M_fin Try.results61 (h2 := ?_))
    exact .whole rfl (by intro x hx; obtain ⟨n, _, rfl⟩ := List.mem_map.1 hx; exact hel n) (by simp)
theorem c_cloneLd (xs : List Ld) (hel : ∀ x, NR (Ld.av x)) (hb : xs.length ≤ 4294967296) : PC Try.prog 62 [.vec 3 (xs.map Ld.av)] (.vec 3 (xs.map Ld.av)) := by
  refine PC.run Try.func62 rfl (by kernel_rfl) (by simp [Try.ntmps62]) ?_
  rw [Try.ntmps62]
  (refine M_reg (h := ?_))
  by_cases hx : xs = []
  · subst hx
    (refine M_part 1 (h := ?_))
    refine T_isnil (by (simp (disch := first | omega | (simp only [List.length_cons, List.length_nil, Nat.reduceAdd]; done)) only [go_sem, ↓reduceIte, Nat.reduceLT, Nat.reduceAdd, Nat.reduceMul, Nat.reduceSub, Nat.reduceEqDiff, reduceCtorEq, Int.reduceToNat, Nat.reducePow, Int.reduceNeg, Int.reduceSub, Int.reduceAdd, Int.reduceMul]) <;> rfl) (by (simp (disch := first | omega | (simp only [List.length_cons, List.length_nil, Nat.reduceAdd]; done)) only [go_sem, ↓reduceIte, Nat.reduceLT, Nat.reduceAdd, Nat.reduceMul, Nat.reduceSub, Nat.reduceEqDiff, reduceCtorEq, Int.reduceToNat, Nat.reducePow, Int.reduceNeg, Int.reduceSub, Int.reduceAdd, Int.reduceMul]) <;> rfl) (by (simp (disch := first | omega | (simp only [List.length_cons, List.length_nil, Nat.reduceAdd]; done)) only [go_sem, ↓reduceIte, Nat.reduceLT, Nat.reduceAdd, Nat.reduceMul, Nat.reduceSub, Nat.reduceEqDiff, reduceCtorEq, Int.reduceToNat, Nat.reducePow, Int.reduceNeg, Int.reduceSub, Int.reduceAdd, Int.reduceMul]) <;> rfl) (by (simp (disch := first | omega | (simp only [List.length_cons, List.length_nil, Nat.reduceAdd]; done)) only [go_sem, ↓reduceIte, Nat.reduceLT, Nat.reduceAdd, Nat.reduceMul, Nat.reduceSub, Nat.reduceEqDiff, reduceCtorEq, Int.reduceToNat, Nat.reducePow, Int.reduceNeg, Int.reduceSub, Int.reduceAdd, Int.reduceMul]) <;> rfl) (by (simp (disch := first | omega | (simp only [List.length_cons, List.length_nil, Nat.reduceAdd]; done)) only [go_sem, ↓reduceIte, Nat.reduceLT, Nat.reduceAdd, Nat.reduceMul, Nat.reduceSub, Nat.reduceEqDiff, reduceCtorEq, Int.reduceToNat, Nat.reducePow, Int.reduceNeg, Int.reduceSub, Int.reduceAdd, Int.reduceMul])) (by (simp (disch := first | omega | (simp only [List.length_cons, List.length_nil, Nat.reduceAdd]; done)) only [go_sem, ↓reduceIte, Nat.reduceLT, Nat.reduceAdd, Nat.reduceMul, Nat.reduceSub, Nat.reduceEqDiff, reduceCtorEq, Int.reduceToNat, Nat.reducePow, Int.reduceNeg, Int.reduceSub, Int.reduceAdd, Int.reduceMul]) <;> rfl) fun b => ?_
    (refine M_post (h := ?_))
    refine S_cond (t := b) (by (simp (disch := first | omega | (simp only [List.length_cons, List.length_nil, Nat.reduceAdd]; done)) only [go_sem, ↓reduceIte, Nat.reduceLT, Nat.reduceAdd, Nat.reduceMul, Nat.reduceSub, Nat.reduceEqDiff, reduceCtorEq, Int.reduceToNat, Nat.reducePow, Int.reduceNeg, Int.reduceSub, Int.reduceAdd, Int.reduceMul]) <;> rfl) (fun h1 => ?_) (fun h1 => ?_)
    · (refine M_reg (h := ?_))
      (refine M_fin Try.results62 (h2 := ?_))
      exact .nil _
    · (repeat (first | refine S_seq ?_ | refine S_block ?_ | refine S_blk ?_ | refine S_skip ?_))
      (refine M_part 0 (h := ?_))
      (refine M_own (h := ?_))
      (refine M_post (h := ?_))
      (refine M_fin Try.results62 (h2 := ?_))
      exact .whole rfl (by simp) (by simp)
  · obtain ⟨x0, r0, rfl⟩ : ∃ a r, xs = a :: r := List.exists_cons_of_ne_nil hx
    rw [List.length_cons] at hb
    (refine M_reg (h := ?_))
    (refine M_no (h := ?_))
    (refine M_part 0 (h := ?_))
    (refine M_own (h := ?_))
    (refine M_post (h := ?_))
    (refine M_fin Try.results62 (h2 := ?_))
    exact .whole rfl (by intro x hx; obtain ⟨n, _, rfl⟩ := List.mem_map.1 hx; exact hel n) (by simp)
theorem c_cloneSg (xs : List Sg) (hel : ∀ x, NR (Sg.av x)) (hb : xs.length ≤ 4294967296) : PC Try.prog 63 [.vec 5 (xs.map Sg.av)] (.vec 5 (xs.map Sg.av)) := by
  refine PC.run Try.func63 rfl (by kernel_rfl) (by simp [Try.ntmps63]) ?_
  rw [Try.ntmps63]
  (refine M_reg (h := ?_))
  by_cases hx : xs = []
  · subst hx
    (refine M_part 1 (h := ?_))
    refine T_isnil (by (simp (disch := first | omega | (simp only [List.length_cons, List.length_nil, Nat.reduceAdd]; done)) only [go_sem, ↓reduceIte, Nat.reduceLT, Nat.reduceAdd, Nat.reduceMul, Nat.reduceSub, Nat.reduceEqDiff, reduceCtorEq, Int.reduceToNat, Nat.reducePow, Int.reduceNeg, Int.reduceSub, Int.reduceAdd, Int.reduceMul]) <;> rfl) (by (simp (disch := first | omega | (simp only [List.length_cons, List.length_nil, Nat.reduceAdd]; done)) only [go_sem, ↓reduceIte, Nat.reduceLT, Nat.reduceAdd, Nat.reduceMul, Nat.reduceSub, Nat.reduceEqDiff, reduceCtorEq, Int.reduceToNat, Nat.reducePow, Int.reduceNeg, Int.reduceSub, Int.reduceAdd, Int.reduceMul]) <;> rfl) (by (simp (disch := first | omega | (simp only [List.length_cons, List.length_nil, Nat.reduceAdd]; done)) only [go_sem, ↓reduceIte, Nat.reduceLT, Nat.reduceAdd, Nat.reduceMul, Nat.reduceSub, Nat.reduceEqDiff, reduceCtorEq, Int.reduceToNat, Nat.reducePow, Int.reduceNeg, Int.reduceSub, Int.reduceAdd, Int.reduceMul]) <;> rfl) (by (simp (disch := first | omega | (simp only [List.length_cons, List.length_nil, Nat.reduceAdd]; done)) only [go_sem, ↓reduceIte, Nat.reduceLT, Nat.reduceAdd, Nat.reduceMul, Nat.reduceSub, Nat.reduceEqDiff, reduceCtorEq, Int.reduceToNat, Nat.reducePow, Int.reduceNeg, Int.reduceSub, Int.reduceAdd, Int.reduceMul]) <;> rfl) (by (simp (disch := first | omega | (simp only [List.length_cons, List.length_nil, Nat.reduceAdd]; done)) only [go_sem, ↓reduceIte, Nat.reduceLT, Nat.reduceAdd, Nat.reduceMul, Nat.reduceSub, Nat.reduceEqDiff, reduceCtorEq, Int.reduceToNat, Nat.reducePow, Int.reduceNeg, Int.reduceSub, Int.reduceAdd, Int.reduceMul])) (by (simp (disch := first | omega | (simp only [List.length_cons, List.length_nil, Nat.reduceAdd]; done)) only [go_sem, ↓reduceIte, Nat.reduceLT, Nat.reduceAdd, Nat.reduceMul, Nat.reduceSub, Nat.reduceEqDiff, reduceCtorEq, Int.reduceToNat, Nat.reducePow, Int.reduceNeg, Int.reduceSub, Int.reduceAdd, Int.reduceMul]) <;> rfl) fun b => ?_
    (refine M_post (h := ?_))
    refine S_cond (t := b) (by (simp (disch := first | omega | (simp only [List.length_cons, List.length_nil, Nat.reduceAdd]; done)) only [go_sem, ↓reduceIte, Nat.reduceLT, Nat.reduceAdd, Nat.reduceMul, Nat.reduceSub, Nat.reduceEqDiff, reduceCtorEq, Int.reduceToNat, Nat.reducePow, Int.reduceNeg, Int.reduceSub, Int.reduceAdd, Int.reduceMul]) <;> rfl) (fun h1 => ?_) (fun h1 => ?_)
    · (refine M_reg (h := ?_))
      (refine M_fin Try.results63 (h2 := ?_))
      exact .nil _
    · (repeat (first | refine S_seq ?_ | refine S_block ?_ | refine S_blk ?_ | refine S_skip ?_))
      (refine M_part 0 (h := ?_))
      (refine M_own (h := ?_))
      (refine M_post (h := ?_))
      (refine M_fin Try.results63 (h2 := ?_))
      exact .whole rfl (by simp) (by simp)
  · obtain ⟨x0, r0, rfl⟩ : ∃ a r, xs = a :: r := List.exists_cons_of_ne_nil hx
    rw [List.length_cons] at hb
    (refine M_reg (h := ?_))
    (refine M_no (h := ?_))
    (refine M_part 0 (h := ?_))
    (refine M_own (h := ?_))
    (refine M_post (h := ?_))
    (refine M_fin Try.results63 (h2 := ?_))
    exact .whole rfl (by intro x hx; obtain ⟨n, _, rfl⟩ := List.mem_map.1 hx; exact hel n) (by simp)
end Go.Gh
