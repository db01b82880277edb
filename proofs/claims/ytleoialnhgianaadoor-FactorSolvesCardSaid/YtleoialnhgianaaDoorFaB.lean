/- Own work, a part of the proof (FaB). Conditions: none. -/
import Derived.Test.YtleoialnhgianaaDoorFaA
import Derived.Test.YtleoialnhgianaaDoorKeA
set_option linter.unusedVariables false
set_option linter.unusedSimpArgs false
namespace Go.Gh
open Go.Proofs
attribute [local irreducible] wpS wpR wpT
def colL (fX : Nat → Nat → Qz) (n k : Nat) : List Qz := (List.range n).map fun i => fX i k
theorem qe_col {fX : Nat → Nat → Qz} {n k j : Nat} (h : j < n) : qe (colL fX n k) j = (fX j k).1 := by
  unfold qe colL
  rw [List.getD_eq_getElem?_getD, List.getElem?_map, List.getElem?_range h]; rfl
def rtP (WQ : List Qz) (fX : Nat → Nat → Qz) (n r k : Nat) : Qz := tmP (fun j => WQ.getD j dq) (colL fX n r) k
def byP (WQ : List Qz) (l : Nat → Qz) : Nat → Qz
  | 0 => (1, true)
  | i + 1 => ((byP WQ l i).1 + qe WQ i * (l i).1, addZ (byP WQ l i).1 (qe WQ i * (l i).1) (byP WQ l i).2 false)
theorem byP_val {WQ : List Qz} {l : Nat → Qz} : ∀ n, (byP WQ l n).1 = 1 + sm n fun i => qe WQ i * (l i).1
  | 0 => by show (1 : Rat) = 1 + 0; grind
  | n + 1 => by
    show (byP WQ l n).1 + _ = _
    rw [byP_val n, sm]; grind
def nMq (fM : Nat → Nat → Qz) (UQ WQ : List Qz) (r c : Nat) : Qz := ((fM r c).1 + qe UQ r * qe WQ c, addZ (fM r c).1 (qe UQ r * qe WQ c) (fM r c).2 false)
def nXq (fX : Nat → Nat → Qz) (l rt : Nat → Qz) (b : Rat) (r c : Nat) : Qz := ((fX r c).1 - (l r).1 * (rt c).1 / b, addZ (fX r c).1 (-((l r).1 * (rt c).1 / b)) (fX r c).2 false)
theorem wk_lessD {nt : Nat} {s s' : List (Nat × AV)} {h h' : Heap} (D : Nat → Prop) (hs : ∀ p ∈ s', Fz h D (look s p.1) p.2)
    (hh : ∀ l b, hget h' l = some b → ¬ D l ∧ ∃ b0, hget h l = some b0 ∧ b.ver = b0.ver ∧ b.es = b0.es ∧ b.elems.length ≤ b0.elems.length ∧
      ∀ i (h1 : i < b.elems.length) (h2 : i < b0.elems.length), b.elems[i].cells.length = b0.elems[i].cells.length ∧ ∀ j (hj : j < b.elems[i].cells.length) (hj' : j < b0.elems[i].cells.length), Fz h D b0.elems[i].cells[j] b.elems[i].cells[j])
    (hv : h.vc ≤ h'.vc) : Less' ⟨nt, s, h⟩ ⟨nt, s', h'⟩ := by
  refine .wk D ⟨rfl, fun t => ?_, hh, hv⟩
  show Fz h _ (look s t) (look s' t)
  by_cases ht : ∃ v, (t, v) ∈ s' ∧ look s' t = v
  · obtain ⟨v, h1, h2⟩ := ht
    rw [h2]; exact hs _ h1
  · have : look s' t = .top := by
      clear hs hh hv
      induction s' with
      | nil => rfl
      | cons p r ih =>
        obtain ⟨k, v⟩ := p
        simp only [look]
        by_cases e : t = k
        · subst e
          exact absurd ⟨v, by simp, by simp [look]⟩ ht
        · rw [if_neg e]
          refine ih fun ⟨v', h1, h2⟩ => ht ⟨v', by simp [h1], by simp only [look]; rw [if_neg e]; exact h2⟩
    rw [this]; exact .top _
def tX (es pos k v : Nat) : AV := if k = 0 then .nilsl else .sl pos v es 0 k
def tB (es k va vb : Nat) (ra rb : List AV) : List (Option Blk) := if k = 0 then [] else [some ⟨va, es, ra⟩, some ⟨vb, es, rb⟩]
def tC (es k va vb : Nat) (ra rb : List AV) : List (Option Blk) := if k = 0 then [some ⟨va, es, ra⟩] else [some ⟨va, es, ra⟩, some ⟨vb, es, rb⟩]
theorem app_t1 {C : List (Option Blk)} {es by_ k va vb vc pos : Nat} {ra rb : List AV} {z x : AV} (hp : pos = C.length) (hr : ra.length = k) (hx : Cellsy es x) (hz : Cellsy es z) (h0 : 0 < es) (hb : (k + 1) * by_ ≤ 140737488355328) (hn : k + 1 ≤ 9223372036854775807) :
    appB ⟨C ++ tB es k va vb ra rb, vc⟩ (tX es pos k va) (some es) (some by_) (some z) (some [x]) = some (.sl pos vc es 0 (k + 1), ⟨C ++ tC es k vc vb (ra ++ [x]) rb, vc + 1⟩) := by
  subst hp
  by_cases h : k = 0
  · subst h
    have : ra = [] := List.length_eq_zero_iff.1 hr
    subst this
    simp only [tX, tB, tC, if_true, List.append_nil, List.nil_append]
    exact app_nil hx hz h0 (by omega)
  · simp only [tX, tB, tC, if_neg h]
    have := app_row (bl := C ++ [some ⟨va, es, ra⟩, some ⟨vb, es, rb⟩]) (l := C.length) (v := va) (es := es) (by_ := by_) (vc := vc) (z := z) (x := x) hg_t0 hx hz h0 (by rw [hr]; exact hb) (by omega)
    rw [st_t0, hr] at this
    exact this
theorem app_t2 {C : List (Option Blk)} {es by_ k va vb vc pos : Nat} {ra rb : List AV} {z x : AV} (hp : pos = C.length + 1) (hr : rb.length = k) (hx : Cellsy es x) (hz : Cellsy es z) (h0 : 0 < es) (hb : (k + 1) * by_ ≤ 140737488355328) (hn : k + 1 ≤ 9223372036854775807) :
    appB ⟨C ++ tC es k va vb ra rb, vc⟩ (tX es pos k vb) (some es) (some by_) (some z) (some [x]) = some (.sl pos vc es 0 (k + 1), ⟨C ++ [some ⟨va, es, ra⟩, some ⟨vc, es, rb ++ [x]⟩], vc + 1⟩) := by
  subst hp
  by_cases h : k = 0
  · subst h
    have : rb = [] := List.length_eq_zero_iff.1 hr
    subst this
    simp only [tX, tC, if_true]
    have := app_nil (bl := C ++ [some ⟨va, es, ra⟩]) (es := es) (by_ := by_) (vc := vc) (z := z) (x := x) hx hz h0 (by omega)
    rw [List.length_append, List.length_singleton, List.append_assoc] at this
    exact this
  · simp only [tX, tC, if_neg h]
    have := app_row (bl := C ++ [some ⟨va, es, ra⟩, some ⟨vb, es, rb⟩]) (l := C.length + 1) (v := vb) (es := es) (by_ := by_) (vc := vc) (z := z) (x := x) hg_t1 hx hz h0 (by rw [hr]; exact hb) (by omega)
    rw [st_t1, hr] at this
    exact this
theorem tX_succ {es pos k v : Nat} : tX es pos (k + 1) v = .sl pos v es 0 (k + 1) := if_neg (by omega)
theorem tB_succ {es k va vb : Nat} {ra rb : List AV} : tB es (k + 1) va vb ra rb = [some ⟨va, es, ra⟩, some ⟨vb, es, rb⟩] := if_neg (by omega)
theorem tX_zero {es pos v : Nat} : tX es pos 0 v = .nilsl := rfl
theorem tB_zero {es va vb : Nat} {ra rb : List AV} : tB es 0 va vb ra rb = [] := rfl
theorem rowA_succ {f : Nat → Qz} {k : Nat} : ((List.range (k + 1)).map f).map qa = ((List.range k).map f).map qa ++ [rv (f k).1 (f k).2] := by
  rw [List.range_succ, List.map_append, List.map_append]; rfl
theorem gridA_succ {n i : Nat} {f : Nat → Nat → Qz} : (mkG (i + 1) n f).map rvs = (mkG i n f).map rvs ++ [rvs ((List.range n).map (f i))] := by
  rw [mkG_succ, List.map_append]; rfl
theorem hgN {B X : List (Option Blk)} {b : Option Blk} {vc : Nat} : hget ⟨B ++ [b] ++ X, vc⟩ B.length = b := by simp [hget]
theorem hsN {B X : List (Option Blk)} {b : Option Blk} {vc : Nat} {k : Blk} : hset ⟨B ++ [b] ++ X, vc⟩ B.length k = ⟨B ++ [some k] ++ X, vc⟩ := by simp [hset]
abbrev nxt (a b : AV) (q : Rat) : AV := .agg [a, b, .bool (decide (q.num < 0)), nat q.num.natAbs, nat (dz q false)]
section
variable {B : List (Option Blk)} {L v vc n : Nat} {fM fX : Nat → Nat → Qz} {gM gX : List (List Qz)} {d : Rat} {z : Bool}
theorem fz_tX {h : Heap} {D : Nat → Prop} {pos n v : Nat} {g : List (List Qz)} (hg : g.length = n) (hD : n ≠ 0 → D pos ∧ hget h pos = some ⟨v, 1, g.map rvs⟩) : Fz h D (tX 1 pos n v) (grid g) := by
  by_cases q : n = 0
  · subst q
    have : g = [] := List.length_eq_zero_iff.1 hg
    subst this
    exact .nil 1
  · rw [tX, if_neg q]
    exact .whole (hD q).1 (hD q).2 (by rw [List.length_map, hg])
theorem wk_next {nt : Nat} {s s' : List (Nat × AV)} {B : List (Option Blk)} {vN n v1 v2 vc : Nat} {q : Rat} {gM gX : List (List Qz)} (hM : gM.length = n) (hX : gX.length = n)
    (hs : ∀ p ∈ s', look s p.1 = p.2) :
    Less' ⟨nt, s, ⟨B ++ [some ⟨vN, 5, [nxt (tX 1 (B.length + 1) n v1) (tX 1 (B.length + 2) n v2) q]⟩] ++ tB 1 n v1 v2 (gM.map rvs) (gX.map rvs), vc⟩⟩ ⟨nt, s', ⟨B ++ [some ⟨vN, 5, [fac gM gX q false]⟩], vc⟩⟩ := by
  refine wk_lessD (fun l => B.length < l) (fun p hp => by rw [hs p hp]; exact .same _) (fun l b hb => ?_) (Nat.le_refl _)
  by_cases hl : l < B.length
  · have h1 : hget ⟨B ++ [some (Blk.mk vN 5 [fac gM gX q false])], vc⟩ l = hget ⟨B, vc⟩ l := hget_push_lt hl
    rw [h1] at hb
    refine ⟨by omega, b, ?_, rfl, rfl, Nat.le_refl _, fun i h1 h2 => ⟨rfl, fun j hj hj' => .same _⟩⟩
    rw [List.append_assoc, hget_push_lt (vc' := vc) hl]; exact hb
  · by_cases hl2 : l = B.length
    · subst hl2
      rw [hget_push] at hb
      simp only [Option.some.injEq] at hb
      subst hb
      refine ⟨by omega, _, hgN, rfl, rfl, Nat.le_refl _, fun i h1 h2 => ?_⟩
      have hi : i = 0 := by simpa using h1
      subst hi
      refine ⟨rfl, fun j hj hj' => ?_⟩
      have hj5 : j < 5 := hj
      have f1 : Fz ⟨B ++ [some (Blk.mk vN 5 [nxt (tX 1 (B.length + 1) n v1) (tX 1 (B.length + 2) n v2) q])] ++ tB 1 n v1 v2 (gM.map rvs) (gX.map rvs), vc⟩ (fun l => B.length < l) (tX 1 (B.length + 1) n v1) (grid gM) := fz_tX hM fun hn => ⟨by omega, by
        rw [tB, if_neg hn]; simp [hget]⟩
      have f2 : Fz ⟨B ++ [some (Blk.mk vN 5 [nxt (tX 1 (B.length + 1) n v1) (tX 1 (B.length + 2) n v2) q])] ++ tB 1 n v1 v2 (gM.map rvs) (gX.map rvs), vc⟩ (fun l => B.length < l) (tX 1 (B.length + 2) n v2) (grid gX) := fz_tX hX fun hn => ⟨by omega, by
        rw [tB, if_neg hn]; simp [hget]⟩
      match j, hj5 with
      | 0, _ => exact f1
      | 1, _ => exact f2
      | 2, _ => exact .same _
      | 3, _ => exact .same _
      | 4, _ => exact .same _
    · exfalso
      rw [hget, List.getElem?_eq_none (by simp; omega)] at hb
      simp at hb
def updQ (B : List (Option Blk)) (L v n : Nat) (fM fX : Nat → Nat → Qz) (d : Rat) (UQ WQ : List Qz) (lq rq : Nat → Qz) (b : Rat) (r : AV) (h : Heap) : Prop :=
  ∃ vc', (b = 0 → r = .int .i64 10 ∧ h = ⟨B, vc'⟩) ∧ (b ≠ 0 → (ffit (mkG n n (nMq fM UQ WQ)) (mkG n n (nXq fX lq rq b)) (d * b) ≠ 0 → r = .int .i64 2 ∧ h = ⟨B, vc'⟩) ∧
    (ffit (mkG n n (nMq fM UQ WQ)) (mkG n n (nXq fX lq rq b)) (d * b) = 0 → r = .int .i64 0 ∧ h = ⟨B.set L (some ⟨v, 5, [fac (mkG n n (nMq fM UQ WQ)) (mkG n n (nXq fX lq rq b)) (d * b) false]⟩), vc'⟩))
theorem getD_qs {U : List Qz} {j : Nat} (h : j < U.length) : (U.map qa).getD j .undef = rv (qe U j) (U.getD j (0, false)).2 := getD_rvs h
theorem c_fUpd (hB : B[L]? = some (some ⟨v, 5, [fac (mkG n n fM) (mkG n n fX) d z]⟩)) (hn : n ≤ 40) (hM : ∀ r c, r < n → c < n → ql (fM r c).1 ≤ 2000) (hX : ∀ r c, r < n → c < n → ql (fX r c).1 ≤ 2000) (hd : ql d ≤ 2000)
    (U W : List Rat) (hU : U.length = n) (hW : W.length = n) (qU : ∀ x ∈ U, ql x ≤ 2000) (qW : ∀ x ∈ W, ql x ≤ 2000) (UQ WQ : List Qz) (eU : UQ = U.map fun x => (x, true)) (eW : WQ = W.map fun x => (x, true)) (lq rq : Nat → Qz) (elq : lq = fun r => tmP (fX r) UQ n) (erq : rq = fun r => rtP WQ fX n r n) :
    AC Tryd.prog 18 [.ptr L v 5 0 0, txs (U.map rtext), txs (W.map rtext)] ⟨B, vc⟩ (updQ B L v n fM fX d UQ WQ lq rq (byP WQ lq n).1) := by
  have fit : ∀ V : List Rat, V.length = n → (∀ x ∈ V, ql x ≤ 2000) → ∃ hl : vchk (V.map rtext) = 0, (∀ s ∈ V.map rtext, s.length ≤ 9223372036854775807) ∧ fvec n (V.map rtext) = 0 := fun V h1 h2 => by
    have hv : vchk (V.map rtext) = 0 := vchk_t (by omega) h2
    refine ⟨hv, fun s hs => ?_, by rw [fvec, hv, if_neg (by simp), List.length_map, if_neg (by omega)]⟩
    obtain ⟨x, hx, rfl⟩ := List.mem_map.1 hs
    have h1 := h2 x hx
    have h2 := rtext_len x
    omega
  obtain ⟨_, fu, k1'⟩ := fit U hU qU
  obtain ⟨_, fw, k2'⟩ := fit W hW qW
  have k1 := c_fvector (vc := vc) hB (U.map rtext) fu (by rw [List.length_map]; omega)
  have k2 := c_fvector (vc := vc) hB (W.map rtext) fw (by rw [List.length_map]; omega)
  rw [mkG_len, k1'] at k1
  rw [mkG_len, k2'] at k2
  have cru := c_Row U (by omega) qU
  have crw := c_Row W (by omega) qW
  rw [← eU] at cru
  rw [← eW] at crw
  have lU : UQ.length = n := by rw [eU, List.length_map]; exact hU
  have lW : WQ.length = n := by rw [eW, List.length_map]; exact hW
  have bU : ∀ j, j < n → ql (qe UQ j) ≤ 2000 := fun j hj => by rw [eU, qe_tr]; exact ql_getD qU (by omega)
  have bW : ∀ j, j < n → ql (qe WQ j) ≤ 2000 := fun j hj => by rw [eW, qe_tr]; exact ql_getD qW (by omega)
  clear eU eW
  have ct := c_times n fX UQ hn lU hX bU
  have bl : ∀ r, r < n → ql (lq r).1 ≤ 200000 := fun r hr => by
    have h1 := ql_tm (f := fX r) (V := UQ) (n := n) (k := n) (fun j hj => hX r j hr hj) bU (Nat.le_refl _)
    have h2 : n * (2000 + 2000 + 1) ≤ 40 * 4001 := Nat.mul_le_mul hn (Nat.le_refl _)
    rw [elq]
    simp only
    omega
  have brk : ∀ r k, r < n → k ≤ n → ql (rtP WQ fX n r k).1 ≤ 200000 := fun r k hr hk => by
    have h1 := ql_tm (f := fun j => WQ.getD j dq) (V := colL fX n r) (n := n) (k := k) (fun j hj => bW j hj) (fun j hj => by rw [qe_col hj]; exact hX j r hj hr) hk
    have h2 : k * (2000 + 2000 + 1) ≤ 40 * 4001 := Nat.mul_le_mul (by omega) (Nat.le_refl _)
    unfold rtP
    omega
  have bb : ∀ i, i ≤ n → ql (byP WQ lq i).1 ≤ 1 + i * 300000 := fun i => by
    induction i with
    | zero =>
      intro _
      show ql ((1 : Int) : Rat) ≤ _
      rw [ql_one]; omega
    | succ i ih =>
      intro hi
      have h1 := ih (by omega)
      have h2 := ql_add (byP WQ lq i).1 (qe WQ i * (lq i).1)
      have h3 := ql_mul (qe WQ i) (lq i).1
      have h4 := bW i (by omega)
      have h5 := bl i (by omega)
      show ql ((byP WQ lq i).1 + qe WQ i * (lq i).1) ≤ _
      omega
  rw [← elq] at ct
  refine AC.run Tryd.func18 rfl (by kernel_rfl) (by simp [Tryd.ntmps18]) ?_
  rw [Tryd.ntmps18]
  (refine M_reg (h := ?_))
  (refine M_pre (h := ?_))
  (refine M_calla (hp := k1) (h := ?_))
  rintro r h ⟨rfl, rfl⟩
  (refine M_post (h := ?_))
  (refine M_reg (h := ?_))
  (refine M_no (h := ?_))
  (refine M_pre (h := ?_))
  (refine M_calla (hp := k2) (h := ?_))
  rintro r h ⟨rfl, rfl⟩
  (refine M_post (h := ?_))
  (refine M_reg (h := ?_))
  (refine M_no (h := ?_))
  (refine M_pre (h := ?_))
  (refine M_call (hp := cru) (hn := (nr1 (nr_txs _))) (h := ?_))
  (refine M_mid (h := ?_))
  (refine M_call (hp := crw) (hn := (nr1 (nr_txs _))) (h := ?_))
  (refine M_post (h := ?_))
  (refine M_pre (he := by ((simp (disch := first | omega | simp) only [go_sem, ↓reduceIte, Nat.reduceLT, Nat.reduceAdd, Nat.reduceMul, Nat.reduceSub, Nat.reduceEqDiff, reduceCtorEq, Int.reduceToNat, Nat.reducePow, Int.reduceNeg, Int.reduceSub, Int.reduceAdd, Int.reduceMul, hB]); rfl)) (h := ?_))
  (refine M_call (hp := ct) (hn := (nr2' (nr_grid _) (nr_rvs _))) (h := ?_))
  (refine M_post (h := ?_))
  (refine M_reg (he := by ((simp (disch := first | omega | simp) only [go_sem, ↓reduceIte, Nat.reduceLT, Nat.reduceAdd, Nat.reduceMul, Nat.reduceSub, Nat.reduceEqDiff, reduceCtorEq, Int.reduceToNat, Nat.reducePow, Int.reduceNeg, Int.reduceSub, Int.reduceAdd, Int.reduceMul, lW]); rfl)) (h := ?_))
  refine S_less zero_row ?_
  (refine M_reg (he := by ((simp (disch := first | omega | simp) only [go_sem, ↓reduceIte, Nat.reduceLT, Nat.reduceAdd, Nat.reduceMul, Nat.reduceSub, Nat.reduceEqDiff, reduceCtorEq, Int.reduceToNat, Nat.reducePow, Int.reduceNeg, Int.reduceSub, Int.reduceAdd, Int.reduceMul, List.length_map, List.length_range]); rfl)) (h := ?_))
  have hBx : ∀ x, (B ++ x)[L]? = some (some ⟨v, 5, [fac (mkG n n fM) (mkG n n fX) d z]⟩) := fun x => by rw [List.getElem?_append_left (List.getElem?_eq_some_iff.1 hB).1]; exact hB
  refine S_loop (fun z : Nat × Nat => ⟨205, [(0, .ptr L v 5 0 0), (9, rvs UQ), (10, rvs WQ), (11, rvs ((List.range n).map lq)), (12, .sl B.length vc 3 0 n), (48, .int .i64 (n : Int)), (49, .int .i64 (z.1 : Int))], ⟨B ++ [some ⟨vc, 3, ((List.range n).map (psQ (rtP WQ fX n) n z.1 0)).map qa⟩], z.2⟩⟩) (fun z => z.1 ≤ n) (fun z => n - z.1) (0, vc + 1) ?_ (Nat.zero_le _) ?_
  · rw [psQ_zero fun _ => rfl]
    (((refine wk_go _ ?_ sub_self (by first | exact Nat.le_refl _ | omega)) <;> simp only [List.forall_mem_cons, List.not_mem_nil, false_implies, implies_true, look_cons, cast0, fz_same, ↓reduceIte, Nat.reduceEqDiff, Nat.reduceAdd, Nat.zero_add, Nat.zero_ne_one, Nat.one_ne_zero, Nat.succ_ne_zero, reduceCtorEq, not_false_eq_true, and_true, true_and, and_self, or_false, false_or, and_false, false_and]))
  · rintro ⟨i, vc1⟩ hi
    simp only at hi ⊢
    (refine M_reg (h := ?_))
    (refine M_cnd (ht := ?_) (hf := ?_))
    · intro h1
      have hi' : i < n := by omega
      (refine M_reg (h := ?_))
      (refine M_reg (he := by ((simp (disch := first | omega | simp) only [go_sem, ↓reduceIte, Nat.reduceLT, Nat.reduceAdd, Nat.reduceMul, Nat.reduceSub, Nat.reduceEqDiff, reduceCtorEq, Int.reduceToNat, Nat.reducePow, Int.reduceNeg, Int.reduceSub, Int.reduceAdd, Int.reduceMul, lW]); rfl)) (h := ?_))
      refine S_loop (fun z : Nat × Nat => ⟨205, [(0, .ptr L v 5 0 0), (9, rvs UQ), (10, rvs WQ), (11, rvs ((List.range n).map lq)), (12, .sl B.length vc 3 0 n), (13, .int .i64 (i : Int)), (48, .int .i64 (n : Int)), (49, .int .i64 (i : Int)), (53, .int .i64 (n : Int)), (54, .int .i64 (z.1 : Int))], ⟨B ++ [some ⟨vc, 3, ((List.range n).map (psQ (rtP WQ fX n) n i z.1)).map qa⟩], z.2⟩⟩) (fun z => z.1 ≤ n) (fun z => n - z.1) (0, vc1) ?_ (Nat.zero_le _) ?_
      · (((refine wk_go _ ?_ sub_self (by first | exact Nat.le_refl _ | omega)) <;> simp only [List.forall_mem_cons, List.not_mem_nil, false_implies, implies_true, look_cons, cast0, fz_same, ↓reduceIte, Nat.reduceEqDiff, Nat.reduceAdd, Nat.zero_add, Nat.zero_ne_one, Nat.one_ne_zero, Nat.succ_ne_zero, reduceCtorEq, not_false_eq_true, and_true, true_and, and_self, or_false, false_or, and_false, false_and]))
      · clear vc1
        rintro ⟨k, vc1⟩ hk
        simp only at hk ⊢
        (refine M_reg (h := ?_))
        (refine M_cnd (ht := ?_) (hf := ?_))
        · intro h2
          have hk' : k < n := by omega
          have hgd := gridD (n := n) (w := n) (f := fX) hk'
          have hc := GQ.cellD (f := fX) (r := k) hi'
          have hwd := getD_qs (U := WQ) (j := k) (by omega)
          have hcell := GQ.cellD (f := fun _ => psQ (rtP WQ fX n) n i k) (r := 0) hi'
          simp only [psQ_at] at hcell
          have b1 := hX k i hk' hi'
          have b2 := bW k hk'
          have b3 := ql_mul (qe WQ k) (fX k i).1
          have b4 := brk i k hi' hk
          have cm := c_QMul (qe WQ k) (fX k i).1 (WQ.getD k (0, false)).2 (fX k i).2 (by omega) (by omega)
          have cad := c_QAddD (rtP WQ fX n i k).1 (qe WQ k * (fX k i).1) (rtP WQ fX n i k).2 false (by omega) (by omega)
          have hst : rv ((rtP WQ fX n i k).1 + qe WQ k * (fX k i).1) (addZ (rtP WQ fX n i k).1 (qe WQ k * (fX k i).1) (rtP WQ fX n i k).2 false) = rv (rtP WQ fX n i (k + 1)).1 (rtP WQ fX n i (k + 1)).2 := by
            rw [← qe_col (fX := fX) (k := i) hk']; rfl
          rw [hst] at cad
          have hset := row_set (w := n) (k := i) (X := psQ (rtP WQ fX n) n i k) (x := rtP WQ fX n i (k + 1))
          rw [← psQ_step] at hset
          generalize qe WQ k = y1 at *
          generalize (WQ.getD k (0, false)).2 = y2 at *
          generalize fX k i = x at *
          generalize rtP WQ fX n i (k + 1) = p1 at *
          generalize rtP WQ fX n i k = p0 at *
          have hlr : (((List.range n).map (psQ (rtP WQ fX n) n i k)).map qa).length = n := rowD (c := 0)
          generalize ((List.range n).map (psQ (rtP WQ fX n) n i k)).map qa = R at *
          (refine M_reg (h := ?_))
          (((repeat (first | refine S_seq ?_ | refine S_block ?_ | refine S_blk ?_ | refine S_skip ?_)); refine T_drawG [] [] (by kernel_rfl) (by kernel_rfl) rfl (G_pre (by (simp (disch := first | omega | simp) only [go_sem, ↓reduceIte, Nat.reduceLT, Nat.reduceAdd, Nat.reduceMul, Nat.reduceSub, Nat.reduceEqDiff, reduceCtorEq, Int.reduceToNat, Nat.reducePow, Int.reduceNeg, Int.reduceSub, Int.reduceAdd, Int.reduceMul, List.contains_cons, List.contains_nil, Nat.reduceBEq, hBx, hgd, hc, hwd, hcell, hlr, lW, mkG_len, hg_t0, List.length_range, Int.toNat_natCast]); rfl) ?_)))
          (refine M_dcall (hp := cm) (hn := (nr2' (nr_rv _ _) (nr_rv _ _))) (h := ?_))
          ((refine G_pre (by (simp (disch := first | omega | simp) only [go_sem, ↓reduceIte, Nat.reduceLT, Nat.reduceAdd, Nat.reduceMul, Nat.reduceSub, Nat.reduceEqDiff, reduceCtorEq, Int.reduceToNat, Nat.reducePow, Int.reduceNeg, Int.reduceSub, Int.reduceAdd, Int.reduceMul, List.contains_cons, List.contains_nil, Nat.reduceBEq]); rfl) ?_))
          (refine M_dcall (hp := cad) (hn := (nr2' (nr_rv _ _) (nr_rv _ _))) (h := ?_))
          ((refine G_pre (by (simp (disch := first | omega | simp) only [go_sem, ↓reduceIte, Nat.reduceLT, Nat.reduceAdd, Nat.reduceMul, Nat.reduceSub, Nat.reduceEqDiff, reduceCtorEq, Int.reduceToNat, Nat.reducePow, Int.reduceNeg, Int.reduceSub, Int.reduceAdd, Int.reduceMul, List.contains_cons, List.contains_nil, Nat.reduceBEq, cy_rv, hset, hlr, hg_t0, hs_t0, Int.toNat_natCast]); rfl) (G_nil ?_); (repeat (first | refine S_seq ?_ | refine S_block ?_ | refine S_blk ?_ | refine S_skip ?_))))
          (refine M_reg (h := ?_))
          refine S_goal ⟨(k + 1, vc1), ?_, by simp only; omega, by simp only; omega⟩
          (((refine wk_go _ ?_ sub_self (by first | exact Nat.le_refl _ | omega)) <;> simp only [List.forall_mem_cons, List.not_mem_nil, false_implies, implies_true, look_cons, cast0, fz_same, ↓reduceIte, Nat.reduceEqDiff, Nat.reduceAdd, Nat.zero_add, Nat.zero_ne_one, Nat.one_ne_zero, Nat.succ_ne_zero, reduceCtorEq, not_false_eq_true, and_true, true_and, and_self, or_false, false_or, and_false, false_and]))
        · intro h2
          (refine M_out (h := ?_))
          have : k = n := by omega
          subst this
          rw [psQ_next fun _ => rfl]
          (refine M_reg (h := ?_))
          refine S_goal ⟨(i + 1, vc1), ?_, by simp only; omega, by simp only; omega⟩
          (((refine wk_go _ ?_ sub_self (by first | exact Nat.le_refl _ | omega)) <;> simp only [List.forall_mem_cons, List.not_mem_nil, false_implies, implies_true, look_cons, cast0, fz_same, ↓reduceIte, Nat.reduceEqDiff, Nat.reduceAdd, Nat.zero_add, Nat.zero_ne_one, Nat.one_ne_zero, Nat.succ_ne_zero, reduceCtorEq, not_false_eq_true, and_true, true_and, and_self, or_false, false_or, and_false, false_and]))
    · intro h1
      (refine M_out (h := ?_))
      have : i = n := by omega
      subst this
      rw [psQ_end, ← erq]
      have c1 := c_Int 1 (by omega) (by omega)
      rw [show (((1 : Int) : Rat)) = 1 from rfl] at c1
      refine S_less (σ' := ⟨205, [(0, .ptr L v 5 0 0), (9, rvs UQ), (10, rvs WQ), (11, rvs ((List.range i).map lq)), (12, rvs ((List.range i).map rq))], ⟨B, vc1⟩⟩) ?_ ?_
      · ((refine wk_tail ?_ (by first | exact Nat.le_refl _ | omega); simp only [List.forall_mem_cons, List.not_mem_nil, false_implies, implies_true, look_cons, cast0, fz_same, fz_t0, fz_t1, fz_t2, fz_t3, ↓reduceIte, Nat.reduceEqDiff, Nat.reduceAdd, and_true, true_and, and_self]))
        exact .whole (D := fun l => B.length ≤ l) (Nat.le_refl _) hg_t0 (by simp)
      (refine M_pre (h := ?_))
      (refine M_call (hp := c1) (hn := (nr1 (.int _ _))) (h := ?_))
      (refine M_post (he := by ((simp (disch := first | omega | simp) only [go_sem, ↓reduceIte, Nat.reduceLT, Nat.reduceAdd, Nat.reduceMul, Nat.reduceSub, Nat.reduceEqDiff, reduceCtorEq, Int.reduceToNat, Nat.reducePow, Int.reduceNeg, Int.reduceSub, Int.reduceAdd, Int.reduceMul, hg_t0, hs_t0]); rfl)) (h := ?_))
      (refine M_reg (he := by ((simp (disch := first | omega | simp) only [go_sem, ↓reduceIte, Nat.reduceLT, Nat.reduceAdd, Nat.reduceMul, Nat.reduceSub, Nat.reduceEqDiff, reduceCtorEq, Int.reduceToNat, Nat.reducePow, Int.reduceNeg, Int.reduceSub, Int.reduceAdd, Int.reduceMul, lW]); rfl)) (h := ?_))
      refine S_loop (fun y : Nat × Nat => ⟨205, [(0, .ptr L v 5 0 0), (9, rvs UQ), (10, rvs WQ), (11, rvs ((List.range i).map lq)), (12, rvs ((List.range i).map rq)), (15, .ptr B.length vc1 3 0 0), (84, .int .i64 (i : Int)), (85, .int .i64 (y.1 : Int))], ⟨B ++ [some ⟨vc1, 3, [rv (byP WQ lq y.1).1 (byP WQ lq y.1).2]⟩], y.2⟩⟩) (fun y => y.1 ≤ i) (fun y => i - y.1) (0, vc1 + 1) ?_ (Nat.zero_le _) ?_
      · rw [show byP WQ lq 0 = (1, true) from rfl]
        (((refine wk_go _ ?_ sub_self (by first | exact Nat.le_refl _ | omega)) <;> simp only [List.forall_mem_cons, List.not_mem_nil, false_implies, implies_true, look_cons, cast0, fz_same, ↓reduceIte, Nat.reduceEqDiff, Nat.reduceAdd, Nat.zero_add, Nat.zero_ne_one, Nat.one_ne_zero, Nat.succ_ne_zero, reduceCtorEq, not_false_eq_true, and_true, true_and, and_self, or_false, false_or, and_false, false_and]))
      · rintro ⟨k, vc2⟩ hk
        simp only at hk ⊢
        (refine M_reg (h := ?_))
        (refine M_cnd (ht := ?_) (hf := ?_))
        · intro h2
          have hk' : k < i := by omega
          have hwd := getD_qs (U := WQ) (j := k) (by omega)
          have hld := GQ.cellD (f := fun _ => lq) (r := 0) hk'
          have b2 := bW k hk'
          have b3 := ql_mul (qe WQ k) (lq k).1
          have b4 := bl k hk'
          have b5 := bb k hk
          have cm := c_QMul (qe WQ k) (lq k).1 (WQ.getD k (0, false)).2 (lq k).2 (by omega) (by omega)
          have cad := c_QAddD (byP WQ lq k).1 (qe WQ k * (lq k).1) (byP WQ lq k).2 false (by omega) (by omega)
          have hst : rv ((byP WQ lq k).1 + qe WQ k * (lq k).1) (addZ (byP WQ lq k).1 (qe WQ k * (lq k).1) (byP WQ lq k).2 false) = rv (byP WQ lq (k + 1)).1 (byP WQ lq (k + 1)).2 := rfl
          rw [hst] at cad
          generalize qe WQ k = y1 at *
          generalize (WQ.getD k (0, false)).2 = y2 at *
          generalize hp1 : byP WQ lq (k + 1) = p1 at *
          generalize byP WQ lq k = p0 at *
          (refine M_reg (h := ?_))
          (((repeat (first | refine S_seq ?_ | refine S_block ?_ | refine S_blk ?_ | refine S_skip ?_)); refine T_drawG [] [] (by kernel_rfl) (by kernel_rfl) rfl (G_pre (by (simp (disch := first | omega | simp) only [go_sem, ↓reduceIte, Nat.reduceLT, Nat.reduceAdd, Nat.reduceMul, Nat.reduceSub, Nat.reduceEqDiff, reduceCtorEq, Int.reduceToNat, Nat.reducePow, Int.reduceNeg, Int.reduceSub, Int.reduceAdd, Int.reduceMul, List.contains_cons, List.contains_nil, Nat.reduceBEq, hwd, hld, lW, hg_t0, List.length_range, List.length_map, Int.toNat_natCast]); rfl) ?_)))
          (refine M_dcall (hp := cm) (hn := (nr2' (nr_rv _ _) (nr_rv _ _))) (h := ?_))
          ((refine G_pre (by (simp (disch := first | omega | simp) only [go_sem, ↓reduceIte, Nat.reduceLT, Nat.reduceAdd, Nat.reduceMul, Nat.reduceSub, Nat.reduceEqDiff, reduceCtorEq, Int.reduceToNat, Nat.reducePow, Int.reduceNeg, Int.reduceSub, Int.reduceAdd, Int.reduceMul, List.contains_cons, List.contains_nil, Nat.reduceBEq]); rfl) ?_))
          (refine M_dcall (hp := cad) (hn := (nr2' (nr_rv _ _) (nr_rv _ _))) (h := ?_))
          ((refine G_pre (by (simp (disch := first | omega | simp) only [go_sem, ↓reduceIte, Nat.reduceLT, Nat.reduceAdd, Nat.reduceMul, Nat.reduceSub, Nat.reduceEqDiff, reduceCtorEq, Int.reduceToNat, Nat.reducePow, Int.reduceNeg, Int.reduceSub, Int.reduceAdd, Int.reduceMul, List.contains_cons, List.contains_nil, Nat.reduceBEq, cy_rv, hg_t0, hs_t0, Int.toNat_natCast]); rfl) (G_nil ?_); (repeat (first | refine S_seq ?_ | refine S_block ?_ | refine S_blk ?_ | refine S_skip ?_))))
          (refine M_reg (h := ?_))
          refine S_goal ⟨(k + 1, vc2), ?_, by simp only; omega, by simp only; omega⟩
          simp only
          rw [hp1]
          (((refine wk_go _ ?_ sub_self (by first | exact Nat.le_refl _ | omega)) <;> simp only [List.forall_mem_cons, List.not_mem_nil, false_implies, implies_true, look_cons, cast0, fz_same, ↓reduceIte, Nat.reduceEqDiff, Nat.reduceAdd, Nat.zero_add, Nat.zero_ne_one, Nat.one_ne_zero, Nat.succ_ne_zero, reduceCtorEq, not_false_eq_true, and_true, true_and, and_self, or_false, false_or, and_false, false_and]))
        · intro h2
          (refine M_out (h := ?_))
          have : k = i := by omega
          subst this
          have bby := bb k (Nat.le_refl _)
          generalize hby : byP WQ lq k = bq at *
          have cs := c_Sign bq.1 bq.2
          (refine M_pre (he := by ((simp (disch := first | omega | simp) only [go_sem, ↓reduceIte, Nat.reduceLT, Nat.reduceAdd, Nat.reduceMul, Nat.reduceSub, Nat.reduceEqDiff, reduceCtorEq, Int.reduceToNat, Nat.reducePow, Int.reduceNeg, Int.reduceSub, Int.reduceAdd, Int.reduceMul, hg_t0]); rfl)) (h := ?_))
          (refine M_call (hp := cs) (hn := (nr1 (nr_rv _ _))) (h := ?_))
          by_cases h3 : bq.1 = 0
          · (refine M_post (he := by ((simp (disch := first | omega | simp) only [go_sem, ↓reduceIte, Nat.reduceLT, Nat.reduceAdd, Nat.reduceMul, Nat.reduceSub, Nat.reduceEqDiff, reduceCtorEq, Int.reduceToNat, Nat.reducePow, Int.reduceNeg, Int.reduceSub, Int.reduceAdd, Int.reduceMul, decide_eq_true (sgnQ_zero.2 h3)]); rfl)) (h := ?_))
            (refine M_yes (h := ?_))
            (refine M_reg (h := ?_))
            refine S_less (σ' := ⟨205, [(6, .int .i64 10)], ⟨B, vc2⟩⟩) ?_ ?_
            · ((refine wk_tail ?_ (by first | exact Nat.le_refl _ | omega); simp only [List.forall_mem_cons, List.not_mem_nil, false_implies, implies_true, look_cons, cast0, fz_same, fz_t0, fz_t1, fz_t2, fz_t3, ↓reduceIte, Nat.reduceEqDiff, Nat.reduceAdd, and_true, true_and, and_self]))
            refine S_ret (finA (Q := updQ B L v k fM fX d UQ WQ lq rq bq.1) (by (simp (disch := first | omega | simp) only [go_sem, ↓reduceIte, Nat.reduceLT, Nat.reduceAdd, Nat.reduceMul, Nat.reduceSub, Nat.reduceEqDiff, reduceCtorEq, Int.reduceToNat, Nat.reducePow, Int.reduceNeg, Int.reduceSub, Int.reduceAdd, Int.reduceMul, Tryd.results18]); rfl) ⟨vc2, fun _ => ⟨rfl, rfl⟩, fun q => absurd h3 q⟩)
          · (refine M_post (he := by ((simp (disch := first | omega | simp) only [go_sem, ↓reduceIte, Nat.reduceLT, Nat.reduceAdd, Nat.reduceMul, Nat.reduceSub, Nat.reduceEqDiff, reduceCtorEq, Int.reduceToNat, Nat.reducePow, Int.reduceNeg, Int.reduceSub, Int.reduceAdd, Int.reduceMul, decide_eq_false (fun q => h3 (sgnQ_zero.1 q))]); rfl)) (h := ?_))
            (refine M_no (h := ?_))
            refine S_less (σ' := ⟨205, [(0, .ptr L v 5 0 0), (9, rvs UQ), (10, rvs WQ), (11, rvs ((List.range k).map lq)), (12, rvs ((List.range k).map rq)), (15, .iptr (rv bq.1 bq.2) 0)], ⟨B, vc2⟩⟩) ?_ ?_
            · ((refine wk_tail ?_ (by first | exact Nat.le_refl _ | omega); simp only [List.forall_mem_cons, List.not_mem_nil, false_implies, implies_true, look_cons, cast0, fz_same, fz_t0, fz_t1, fz_t2, fz_t3, ↓reduceIte, Nat.reduceEqDiff, Nat.reduceAdd, and_true, true_and, and_self]))
            have cm := c_QMul d bq.1 z bq.2 (by omega) (by omega)
            (((repeat (first | refine S_seq ?_ | refine S_block ?_ | refine S_blk ?_ | refine S_skip ?_)); refine T_drawG [15] [] (by kernel_rfl) (by kernel_rfl) rfl (G_pre (by (simp (disch := first | omega | simp) only [go_sem, ↓reduceIte, Nat.reduceLT, Nat.reduceAdd, Nat.reduceMul, Nat.reduceSub, Nat.reduceEqDiff, reduceCtorEq, Int.reduceToNat, Nat.reducePow, Int.reduceNeg, Int.reduceSub, Int.reduceAdd, Int.reduceMul, List.contains_cons, List.contains_nil, Nat.reduceBEq, hB]); rfl) ?_)))
            (refine M_dcall (hp := cm) (hn := (nr2' (nr_rv _ _) (nr_rv _ _))) (h := ?_))
            ((refine G_pre (by (simp (disch := first | omega | simp) only [go_sem, ↓reduceIte, Nat.reduceLT, Nat.reduceAdd, Nat.reduceMul, Nat.reduceSub, Nat.reduceEqDiff, reduceCtorEq, Int.reduceToNat, Nat.reducePow, Int.reduceNeg, Int.reduceSub, Int.reduceAdd, Int.reduceMul, List.contains_cons, List.contains_nil, Nat.reduceBEq]); rfl) (G_nil ?_); (repeat (first | refine S_seq ?_ | refine S_block ?_ | refine S_blk ?_ | refine S_skip ?_))))
            (refine M_reg (he := by ((simp (disch := first | omega | simp) only [go_sem, ↓reduceIte, Nat.reduceLT, Nat.reduceAdd, Nat.reduceMul, Nat.reduceSub, Nat.reduceEqDiff, reduceCtorEq, Int.reduceToNat, Nat.reducePow, Int.reduceNeg, Int.reduceSub, Int.reduceAdd, Int.reduceMul, hBx, mkG_len]); rfl)) (h := ?_))
            have hqd : ql (d * bq.1) ≤ 20000000 := by
              have h5 := ql_mul d bq.1
              have h6 : k * 300000 ≤ 40 * 300000 := Nat.mul_le_mul hn (Nat.le_refl _)
              omega
            generalize hq' : d * bq.1 = q at *
            refine S_loop (fun y : Nat × Nat × Nat × Nat => ⟨205, [(0, .ptr L v 5 0 0), (9, rvs UQ), (10, rvs WQ), (11, rvs ((List.range k).map lq)), (12, rvs ((List.range k).map rq)), (15, .iptr (rv bq.1 bq.2) 0), (17, .ptr B.length vc2 5 0 0), (115, .int .i64 (k : Int)), (116, .int .i64 (y.1 : Int))],
              ⟨B ++ [some ⟨vc2, 5, [nxt (tX 1 (B.length + 1) y.1 y.2.1) (tX 1 (B.length + 2) y.1 y.2.2.1) q]⟩] ++ tB 1 y.1 y.2.1 y.2.2.1 ((mkG y.1 k (nMq fM UQ WQ)).map rvs) ((mkG y.1 k (nXq fX lq rq bq.1)).map rvs), y.2.2.2⟩⟩) (fun y => y.1 ≤ k) (fun y => k - y.1) (0, 0, 0, vc2 + 1) ?_ (Nat.zero_le _) ?_
            · simp only [tX_zero, tB_zero, List.append_nil]
              (((refine wk_go _ ?_ sub_self (by first | exact Nat.le_refl _ | omega)) <;> simp only [List.forall_mem_cons, List.not_mem_nil, false_implies, implies_true, look_cons, cast0, fz_same, ↓reduceIte, Nat.reduceEqDiff, Nat.reduceAdd, Nat.zero_add, Nat.zero_ne_one, Nat.one_ne_zero, Nat.succ_ne_zero, reduceCtorEq, not_false_eq_true, and_true, true_and, and_self, or_false, false_or, and_false, false_and]))
            · rintro ⟨i, v1, v2, vc3⟩ hi
              simp only at hi ⊢
              (refine M_reg (h := ?_))
              (refine M_cnd (ht := ?_) (hf := ?_))
              · intro h4
                have hi' : i < k := by omega
                have hlM : ((mkG i k (nMq fM UQ WQ)).map rvs).length = i := by rw [List.length_map, mkG_len]
                have hlX : ((mkG i k (nXq fX lq rq bq.1)).map rvs).length = i := by rw [List.length_map, mkG_len]
                have hgM := gridA_succ (n := k) (i := i) (f := nMq fM UQ WQ)
                have hgX := gridA_succ (n := k) (i := i) (f := nXq fX lq rq bq.1)
                obtain ⟨bk, hbk⟩ : ∃ bk, bk = some (Blk.mk vc2 5 [nxt (tX 1 (B.length + 1) i v1) (tX 1 (B.length + 2) i v2) q]) := ⟨_, rfl⟩
                obtain ⟨C, hCe⟩ : ∃ C, C = B ++ [bk] ++ tB 1 i v1 v2 ((mkG i k (nMq fM UQ WQ)).map rvs) ((mkG i k (nXq fX lq rq bq.1)).map rvs) := ⟨_, rfl⟩
                rw [← hbk, ← hCe]
                have hC0 : C[L]? = some (some ⟨v, 5, [fac (mkG k k fM) (mkG k k fX) d z]⟩) := by rw [hCe, List.append_assoc]; exact hBx _
                have hCx : ∀ x, (C ++ x)[L]? = some (some ⟨v, 5, [fac (mkG k k fM) (mkG k k fX) d z]⟩) := fun x => by rw [hCe, List.append_assoc, List.append_assoc]; exact hBx _
                (refine M_reg (h := ?_))
                (refine M_reg (h := ?_))
                (refine M_reg (he := by ((simp (disch := first | omega | simp) only [go_sem, ↓reduceIte, Nat.reduceLT, Nat.reduceAdd, Nat.reduceMul, Nat.reduceSub, Nat.reduceEqDiff, reduceCtorEq, Int.reduceToNat, Nat.reducePow, Int.reduceNeg, Int.reduceSub, Int.reduceAdd, Int.reduceMul, hC0, mkG_len]); rfl)) (h := ?_))
                refine S_loop (fun y : Nat × Nat × Nat × Nat => ⟨205, [(0, .ptr L v 5 0 0), (9, rvs UQ), (10, rvs WQ), (11, rvs ((List.range k).map lq)), (12, rvs ((List.range k).map rq)), (15, .iptr (rv bq.1 bq.2) 0), (17, .ptr B.length vc2 5 0 0), (18, .int .i64 (i : Int)), (19, tX 3 C.length y.1 y.2.1), (20, tX 3 (C.length + 1) y.1 y.2.2.1), (115, .int .i64 (k : Int)), (116, .int .i64 (i : Int)), (123, .int .i64 (k : Int)), (124, .int .i64 (y.1 : Int))],
                  ⟨C ++ tB 3 y.1 y.2.1 y.2.2.1 (((List.range y.1).map (nMq fM UQ WQ i)).map qa) (((List.range y.1).map (nXq fX lq rq bq.1 i)).map qa), y.2.2.2⟩⟩) (fun y => y.1 ≤ k) (fun y => k - y.1) (0, 0, 0, vc3) ?_ (Nat.zero_le _) ?_
                · simp only [tX_zero, tB_zero, List.append_nil]
                  (((refine wk_go _ ?_ sub_self (by first | exact Nat.le_refl _ | omega)) <;> simp only [List.forall_mem_cons, List.not_mem_nil, false_implies, implies_true, look_cons, cast0, fz_same, ↓reduceIte, Nat.reduceEqDiff, Nat.reduceAdd, Nat.zero_add, Nat.zero_ne_one, Nat.one_ne_zero, Nat.succ_ne_zero, reduceCtorEq, not_false_eq_true, and_true, true_and, and_self, or_false, false_or, and_false, false_and]))
                · rintro ⟨j, va, vb, vc4⟩ hj
                  simp only at hj ⊢
                  (refine M_reg (h := ?_))
                  (refine M_cnd (ht := ?_) (hf := ?_))
                  · intro h5
                    have hj' : j < k := by omega
                    have gM := gridD (n := k) (w := k) (f := fM) hi'
                    have gX := gridD (n := k) (w := k) (f := fX) hi'
                    have cM := GQ.cellD (f := fM) (r := i) hj'
                    have cX := GQ.cellD (f := fX) (r := i) hj'
                    have dU := getD_qs (U := UQ) (j := i) (by omega)
                    have dW := getD_qs (U := WQ) (j := j) (by omega)
                    have dl := GQ.cellD (f := fun _ => lq) (r := 0) hi'
                    have dr := GQ.cellD (f := fun _ => rq) (r := 0) hj'
                    have b1 := hM i j hi' hj'
                    have b2 := hX i j hi' hj'
                    have b3 := bU i hi'
                    have b4 := bW j hj'
                    have b5 := bl i hi'
                    have b6 := brk j k hj' (Nat.le_refl _)
                    rw [show rtP WQ fX k j k = rq j by rw [erq]] at b6
                    have b7 := ql_mul (qe UQ i) (qe WQ j)
                    have b8 := ql_mul (lq i).1 (rq j).1
                    have b9 := ql_div ((lq i).1 * (rq j).1) bq.1
                    have b10 : k * 300000 ≤ 40 * 300000 := Nat.mul_le_mul hn (Nat.le_refl _)
                    have m1 := c_QMul (qe UQ i) (qe WQ j) (UQ.getD i (0, false)).2 (WQ.getD j (0, false)).2 (by omega) (by omega)
                    have m2 := c_QAddD (fM i j).1 (qe UQ i * qe WQ j) (fM i j).2 false (by omega) (by omega)
                    have m3 := c_QMul (lq i).1 (rq j).1 (lq i).2 (rq j).2 (by omega) (by omega)
                    have m4 := c_QQuo ((lq i).1 * (rq j).1) bq.1 false bq.2 (by omega) (by omega)
                    have m5 := c_QSubD (fX i j).1 ((lq i).1 * (rq j).1 / bq.1) (fX i j).2 false (by omega) (by omega)
                    have e1 : rv ((fM i j).1 + qe UQ i * qe WQ j) (addZ (fM i j).1 (qe UQ i * qe WQ j) (fM i j).2 false) = rv (nMq fM UQ WQ i j).1 (nMq fM UQ WQ i j).2 := rfl
                    have e2 : rv ((fX i j).1 - (lq i).1 * (rq j).1 / bq.1) (addZ (fX i j).1 (-((lq i).1 * (rq j).1 / bq.1)) (fX i j).2 false) = rv (nXq fX lq rq bq.1 i j).1 (nXq fX lq rq bq.1 i j).2 := rfl
                    rw [e1] at m2
                    rw [e2] at m5
                    have sM := rowA_succ (f := nMq fM UQ WQ i) (k := j)
                    have sX := rowA_succ (f := nXq fX lq rq bq.1 i) (k := j)
                    have lrM : (((List.range j).map (nMq fM UQ WQ i)).map qa).length = j := rowD (c := 0)
                    have lrX : (((List.range j).map (nXq fX lq rq bq.1 i)).map qa).length = j := rowD (c := 0)
                    generalize nMq fM UQ WQ i j = xM at *
                    generalize nXq fX lq rq bq.1 i j = xX at *
                    generalize ((List.range j).map (nMq fM UQ WQ i)).map qa = ra at *
                    generalize ((List.range j).map (nXq fX lq rq bq.1 i)).map qa = rb at *
                    have ap1 := app_t1 (C := C) (es := 3) (by_ := 56) (k := j) (va := va) (vb := vb) (vc := vc4) (pos := C.length) (ra := ra) (rb := rb) (z := q0) (x := rv xM.1 xM.2) rfl lrM (cy_rv _ _) cy_q0 (by omega) (by omega) (by omega)
                    have ap2 := app_t2 (C := C) (es := 3) (by_ := 56) (k := j) (va := vc4) (vb := vb) (vc := vc4 + 1) (pos := C.length + 1) (ra := ra ++ [rv xM.1 xM.2]) (rb := rb) (z := q0) (x := rv xX.1 xX.2) rfl lrX (cy_rv _ _) cy_q0 (by omega) (by omega) (by omega)
                    generalize (UQ.getD i (0, false)).2 = u2 at *
                    generalize (WQ.getD j (0, false)).2 = w2 at *
                    generalize qe UQ i = u1 at *
                    generalize qe WQ j = w1 at *
                    generalize hli : lq i = li at *
                    generalize hrj : rq j = rj at *
                    (refine M_reg (h := ?_))
                    (((repeat (first | refine S_seq ?_ | refine S_block ?_ | refine S_blk ?_ | refine S_skip ?_)); refine T_drawG [] [] (by kernel_rfl) (by kernel_rfl) rfl (G_pre (by (simp (disch := first | omega | simp) only [go_sem, ↓reduceIte, Nat.reduceLT, Nat.reduceAdd, Nat.reduceMul, Nat.reduceSub, Nat.reduceEqDiff, reduceCtorEq, Int.reduceToNat, Nat.reducePow, Int.reduceNeg, Int.reduceSub, Int.reduceAdd, Int.reduceMul, List.contains_cons, List.contains_nil, Nat.reduceBEq, hCx, gM, cM, dU, dW, lU, lW, mkG_len, List.length_range, List.length_map, Int.toNat_natCast]); rfl) ?_)))
                    (refine M_dcall (hp := m1) (hn := (nr2' (nr_rv _ _) (nr_rv _ _))) (h := ?_))
                    ((refine G_pre (by (simp (disch := first | omega | simp) only [go_sem, ↓reduceIte, Nat.reduceLT, Nat.reduceAdd, Nat.reduceMul, Nat.reduceSub, Nat.reduceEqDiff, reduceCtorEq, Int.reduceToNat, Nat.reducePow, Int.reduceNeg, Int.reduceSub, Int.reduceAdd, Int.reduceMul, List.contains_cons, List.contains_nil, Nat.reduceBEq]); rfl) ?_))
                    (refine M_dcall (hp := m2) (hn := (nr2' (nr_rv _ _) (nr_rv _ _))) (h := ?_))
                    ((refine G_pre (by (simp (disch := first | omega | simp) only [go_sem, ↓reduceIte, Nat.reduceLT, Nat.reduceAdd, Nat.reduceMul, Nat.reduceSub, Nat.reduceEqDiff, reduceCtorEq, Int.reduceToNat, Nat.reducePow, Int.reduceNeg, Int.reduceSub, Int.reduceAdd, Int.reduceMul, List.contains_cons, List.contains_nil, Nat.reduceBEq, ap1]); rfl) (G_nil ?_); (repeat (first | refine S_seq ?_ | refine S_block ?_ | refine S_blk ?_ | refine S_skip ?_))))
                    (((repeat (first | refine S_seq ?_ | refine S_block ?_ | refine S_blk ?_ | refine S_skip ?_)); refine T_drawG [15] [] (by kernel_rfl) (by kernel_rfl) rfl (G_pre (by (simp (disch := first | omega | simp) only [go_sem, ↓reduceIte, Nat.reduceLT, Nat.reduceAdd, Nat.reduceMul, Nat.reduceSub, Nat.reduceEqDiff, reduceCtorEq, Int.reduceToNat, Nat.reducePow, Int.reduceNeg, Int.reduceSub, Int.reduceAdd, Int.reduceMul, List.contains_cons, List.contains_nil, Nat.reduceBEq, hCx, gX, cX, dl, dr, mkG_len, List.length_range, List.length_map, Int.toNat_natCast]); rfl) ?_)))
                    (refine M_dcall (hp := m3) (hn := (nr2' (nr_rv _ _) (nr_rv _ _))) (h := ?_))
                    ((refine G_pre (by (simp (disch := first | omega | simp) only [go_sem, ↓reduceIte, Nat.reduceLT, Nat.reduceAdd, Nat.reduceMul, Nat.reduceSub, Nat.reduceEqDiff, reduceCtorEq, Int.reduceToNat, Nat.reducePow, Int.reduceNeg, Int.reduceSub, Int.reduceAdd, Int.reduceMul, List.contains_cons, List.contains_nil, Nat.reduceBEq]); rfl) ?_))
                    (refine M_dcall (hp := m4) (hn := (nr2' (nr_rv _ _) (nr_rv _ _))) (h := ?_))
                    ((refine G_pre (by (simp (disch := first | omega | simp) only [go_sem, ↓reduceIte, Nat.reduceLT, Nat.reduceAdd, Nat.reduceMul, Nat.reduceSub, Nat.reduceEqDiff, reduceCtorEq, Int.reduceToNat, Nat.reducePow, Int.reduceNeg, Int.reduceSub, Int.reduceAdd, Int.reduceMul, List.contains_cons, List.contains_nil, Nat.reduceBEq]); rfl) ?_))
                    (refine M_dcall (hp := m5) (hn := (nr2' (nr_rv _ _) (nr_rv _ _))) (h := ?_))
                    ((refine G_pre (by (simp (disch := first | omega | simp) only [go_sem, ↓reduceIte, Nat.reduceLT, Nat.reduceAdd, Nat.reduceMul, Nat.reduceSub, Nat.reduceEqDiff, reduceCtorEq, Int.reduceToNat, Nat.reducePow, Int.reduceNeg, Int.reduceSub, Int.reduceAdd, Int.reduceMul, List.contains_cons, List.contains_nil, Nat.reduceBEq, ap2]); rfl) (G_nil ?_); (repeat (first | refine S_seq ?_ | refine S_block ?_ | refine S_blk ?_ | refine S_skip ?_))))
                    (refine M_reg (h := ?_))
                    refine S_goal ⟨(j + 1, vc4, vc4 + 1, vc4 + 1 + 1), ?_, by simp only; omega, by simp only; omega⟩
                    simp only [tX_succ, tB_succ, sM, sX]
                    (((refine wk_go _ ?_ sub_self (by first | exact Nat.le_refl _ | omega)) <;> simp only [List.forall_mem_cons, List.not_mem_nil, false_implies, implies_true, look_cons, cast0, fz_same, ↓reduceIte, Nat.reduceEqDiff, Nat.reduceAdd, Nat.zero_add, Nat.zero_ne_one, Nat.one_ne_zero, Nat.succ_ne_zero, reduceCtorEq, not_false_eq_true, and_true, true_and, and_self, or_false, false_or, and_false, false_and]))
                  · intro h5
                    (refine M_out (h := ?_))
                    have : j = k := by omega
                    subst this
                    have hj0 : j ≠ 0 := by omega
                    simp only [tX, tB, if_neg hj0]
                    refine S_less (σ' := ⟨205, [(0, .ptr L v 5 0 0), (9, rvs UQ), (10, rvs WQ), (11, rvs ((List.range j).map lq)), (12, rvs ((List.range j).map rq)), (15, .iptr (rv bq.1 bq.2) 0), (17, .ptr B.length vc2 5 0 0), (19, rvs ((List.range j).map (nMq fM UQ WQ i))), (20, rvs ((List.range j).map (nXq fX lq rq bq.1 i))), (115, .int .i64 (j : Int)), (116, .int .i64 (i : Int))], ⟨C, vc4⟩⟩) ?_ ?_
                    · ((refine wk_tail ?_ (by first | exact Nat.le_refl _ | omega); simp only [List.forall_mem_cons, List.not_mem_nil, false_implies, implies_true, look_cons, cast0, fz_same, fz_t0, fz_t1, fz_t2, fz_t3, ↓reduceIte, Nat.reduceEqDiff, Nat.reduceAdd, and_true, true_and, and_self]))
                      exact ⟨.whole (D := fun l => C.length ≤ l) (Nat.le_refl _) hg_t0 (by simp), .whole (D := fun l => C.length ≤ l) (Nat.le_succ _) hg_t1 (by simp)⟩
                    rw [hCe, hbk]
                    clear hC0 hCx
                    have ap1 := app_t1 (C := B ++ [some (Blk.mk vc2 5 [nxt (tX 1 (B.length + 1) i v1) (tX 1 (B.length + 2) i v2) q])]) (es := 1) (by_ := 24) (k := i) (va := v1) (vb := v2) (vc := vc4) (pos := B.length + 1) (rb := (mkG i j (nXq fX lq rq bq.1)).map rvs) (z := .nilsl) (x := rvs ((List.range j).map (nMq fM UQ WQ i))) (by simp) hlM (cy_vec _ _) cy_nil (by omega) (by omega) (by omega)
                    have ap2 := app_t2 (C := B ++ [some (Blk.mk vc2 5 [nxt (tX 1 (B.length + 1) i v1) (tX 1 (B.length + 2) i v2) q])]) (es := 1) (by_ := 24) (k := i) (va := vc4) (vb := v2) (vc := vc4 + 1) (pos := B.length + 2) (ra := (mkG i j (nMq fM UQ WQ)).map rvs ++ [rvs ((List.range j).map (nMq fM UQ WQ i))]) (z := .nilsl) (x := rvs ((List.range j).map (nXq fX lq rq bq.1 i))) (by simp) hlX (cy_vec _ _) cy_nil (by omega) (by omega) (by omega)
                    rw [← hgM] at ap1 ap2
                    rw [← hgX] at ap2
                    generalize hra1 : (mkG (i + 1) j (nMq fM UQ WQ)).map rvs = ra1 at *
                    generalize hrb1 : (mkG (i + 1) j (nXq fX lq rq bq.1)).map rvs = rb1 at *
                    generalize tX 1 (B.length + 1) i v1 = x1 at *
                    generalize tX 1 (B.length + 2) i v2 = x2 at *
                    generalize (List.range j).map (nMq fM UQ WQ i) = y1 at *
                    generalize (List.range j).map (nXq fX lq rq bq.1 i) = y2 at *
                    (((repeat (first | refine S_seq ?_ | refine S_block ?_ | refine S_blk ?_ | refine S_skip ?_)); refine T_drawGA [187] [184] B.length [] [] (by kernel_rfl) (by kernel_rfl) rfl ?_))
                    ((refine A_part 8 (by rfl) (by (simp (disch := first | omega | simp) only [go_sem, ↓reduceIte, Nat.reduceLT, Nat.reduceAdd, Nat.reduceMul, Nat.reduceSub, Nat.reduceEqDiff, reduceCtorEq, Int.reduceToNat, Nat.reducePow, Int.reduceNeg, Int.reduceSub, Int.reduceAdd, Int.reduceMul, List.contains_cons, List.contains_nil, Nat.reduceBEq, hgN]); rfl) ?_))
                    ((refine A_one (by (simp (disch := first | omega | simp) only [go_sem, ↓reduceIte, Nat.reduceLT, Nat.reduceAdd, Nat.reduceMul, Nat.reduceSub, Nat.reduceEqDiff, reduceCtorEq, Int.reduceToNat, Nat.reducePow, Int.reduceNeg, Int.reduceSub, Int.reduceAdd, Int.reduceMul, List.contains_cons, List.contains_nil, Nat.reduceBEq, ap1]); rfl) ?_ ?_ ?_))
                    · simp only [hgN]
                    · intro h; simp [isF] at h
                    ((refine A_part 3 (by rfl) (by (simp (disch := first | omega | simp) only [go_sem, ↓reduceIte, Nat.reduceLT, Nat.reduceAdd, Nat.reduceMul, Nat.reduceSub, Nat.reduceEqDiff, reduceCtorEq, Int.reduceToNat, Nat.reducePow, Int.reduceNeg, Int.reduceSub, Int.reduceAdd, Int.reduceMul, List.contains_cons, List.contains_nil, Nat.reduceBEq, hgN]); rfl) ?_))
                    ((refine A_one (by (simp (disch := first | omega | simp) only [go_sem, ↓reduceIte, Nat.reduceLT, Nat.reduceAdd, Nat.reduceMul, Nat.reduceSub, Nat.reduceEqDiff, reduceCtorEq, Int.reduceToNat, Nat.reducePow, Int.reduceNeg, Int.reduceSub, Int.reduceAdd, Int.reduceMul, List.contains_cons, List.contains_nil, Nat.reduceBEq, hgN]); rfl) ?_ ?_ ?_))
                    · rfl
                    · intro _; exact ⟨_, _, _, _, _, _, rfl, rfl⟩
                    ((refine A_part 9 (by rfl) (by (simp (disch := first | omega | simp) only [go_sem, ↓reduceIte, Nat.reduceLT, Nat.reduceAdd, Nat.reduceMul, Nat.reduceSub, Nat.reduceEqDiff, reduceCtorEq, Int.reduceToNat, Nat.reducePow, Int.reduceNeg, Int.reduceSub, Int.reduceAdd, Int.reduceMul, List.contains_cons, List.contains_nil, Nat.reduceBEq, hgN, hsN, ap2, cy_sl]); rfl) ?_))
                    ((refine A_nil ?_; (repeat (first | refine S_seq ?_ | refine S_block ?_ | refine S_blk ?_ | refine S_skip ?_))))
                    (refine M_reg (h := ?_))
                    refine S_goal ⟨(i + 1, vc4, vc4 + 1, vc4 + 1 + 1), ?_, by simp only; omega, by simp only; omega⟩
                    simp only [tX_succ, tB_succ, if_neg (Nat.succ_ne_zero i), hra1, hrb1]
                    (((refine wk_go _ ?_ sub_self (by first | exact Nat.le_refl _ | omega)) <;> simp only [List.forall_mem_cons, List.not_mem_nil, false_implies, implies_true, look_cons, cast0, fz_same, ↓reduceIte, Nat.reduceEqDiff, Nat.reduceAdd, Nat.zero_add, Nat.zero_ne_one, Nat.one_ne_zero, Nat.succ_ne_zero, reduceCtorEq, not_false_eq_true, and_true, true_and, and_self, or_false, false_or, and_false, false_and]))
              · intro h4
                (refine M_out (h := ?_))
                have : i = k := by omega
                subst this
                refine S_less (σ' := ⟨205, [(0, .ptr L v 5 0 0), (17, .ptr B.length vc2 5 0 0)], ⟨B ++ [some ⟨vc2, 5, [fac (mkG i i (nMq fM UQ WQ)) (mkG i i (nXq fX lq rq bq.1)) q false]⟩], vc3⟩⟩) (wk_next mkG_len mkG_len fun p hp => by
                  simp only [List.mem_cons, List.not_mem_nil, or_false] at hp
                  rcases hp with rfl | rfl <;> rfl) ?_
                have hbM : ∀ r c, r < i → c < i → ql (nMq fM UQ WQ r c).1 ≤ 100000000000 := fun r c hr hc => by
                  have b1 := hM r c hr hc
                  have b3 := bU r hr
                  have b4 := bW c hc
                  have b7 := ql_mul (qe UQ r) (qe WQ c)
                  have b8 := ql_add (fM r c).1 (qe UQ r * qe WQ c)
                  show ql ((fM r c).1 + qe UQ r * qe WQ c) ≤ _
                  omega
                have hbX : ∀ r c, r < i → c < i → ql (nXq fX lq rq bq.1 r c).1 ≤ 100000000000 := fun r c hr hc => by
                  have b1 := hX r c hr hc
                  have b5 := bl r hr
                  have b6 := brk c i hc (Nat.le_refl _)
                  rw [show rtP WQ fX i c i = rq c by rw [erq]] at b6
                  have b8 := ql_mul (lq r).1 (rq c).1
                  have b9 := ql_div ((lq r).1 * (rq c).1) bq.1
                  have b10 : i * 300000 ≤ 40 * 300000 := Nat.mul_le_mul hn (Nat.le_refl _)
                  have b11 := ql_sub (fX r c).1 ((lq r).1 * (rq c).1 / bq.1)
                  show ql ((fX r c).1 - (lq r).1 * (rq c).1 / bq.1) ≤ _
                  omega
                have hrow : ∀ g : Nat → Nat → Qz, (∀ r c, r < i → c < i → ql (g r c).1 ≤ 100000000000) → ∀ r ∈ mkG i i g, r.length ≤ 1000 ∧ ∀ p ∈ r, ql p.1 ≤ 100000000000 := fun g hg r hr => by
                  obtain ⟨a, ha, rfl⟩ := mkG_mem hr
                  refine ⟨by simp; omega, fun p hp => ?_⟩
                  obtain ⟨c, hc, rfl⟩ := List.mem_map.1 hp
                  exact hg a c ha (List.mem_range.1 hc)
                have kf := c_fits (B := B ++ [some (Blk.mk vc2 5 [fac (mkG i i (nMq fM UQ WQ)) (mkG i i (nXq fX lq rq bq.1)) q false])]) (L := B.length) (v := vc2) (vc := vc3) (gM := mkG i i (nMq fM UQ WQ)) (gX := mkG i i (nXq fX lq rq bq.1)) (d := q) (z := false) (by simp) (by rw [mkG_len]; omega) (hrow _ hbM) (by rw [mkG_len]; omega) (hrow _ hbX) (by omega)
                (refine M_pre (h := ?_))
                (refine M_calla (hp := kf) (h := ?_))
                rintro r h ⟨rfl, rfl⟩
                have hup : ∀ k : Blk, hset ⟨B ++ [some (Blk.mk vc2 5 [fac (mkG i i (nMq fM UQ WQ)) (mkG i i (nXq fX lq rq bq.1)) q false])], vc3⟩ L k = ⟨B.set L (some k) ++ [some (Blk.mk vc2 5 [fac (mkG i i (nMq fM UQ WQ)) (mkG i i (nXq fX lq rq bq.1)) q false])], vc3⟩ := fun k => by
                  rw [hset, List.set_append_left _ _ (List.getElem?_eq_some_iff.1 hB).1]
                have hfin : ∀ r h, ((ffit (mkG i i (nMq fM UQ WQ)) (mkG i i (nXq fX lq rq bq.1)) q ≠ 0 → r = .int .i64 2 ∧ h = ⟨B, vc3⟩) ∧
                    (ffit (mkG i i (nMq fM UQ WQ)) (mkG i i (nXq fX lq rq bq.1)) q = 0 → r = .int .i64 0 ∧ h = ⟨B.set L (some ⟨v, 5, [fac (mkG i i (nMq fM UQ WQ)) (mkG i i (nXq fX lq rq bq.1)) q false]⟩), vc3⟩)) → updQ B L v i fM fX d UQ WQ lq rq bq.1 r h := fun r h q1 => ⟨vc3, fun e => absurd e h3, fun _ => by rw [hq']; exact q1⟩
                generalize updQ B L v i fM fX d UQ WQ lq rq bq.1 = QQ at *
                generalize mkG i i (nMq fM UQ WQ) = GM at *
                generalize mkG i i (nXq fX lq rq bq.1) = GX at *
                by_cases h7 : ffit GM GX q = 0
                · (refine M_post (he := by ((simp (disch := first | omega | simp) only [go_sem, ↓reduceIte, Nat.reduceLT, Nat.reduceAdd, Nat.reduceMul, Nat.reduceSub, Nat.reduceEqDiff, reduceCtorEq, Int.reduceToNat, Nat.reducePow, Int.reduceNeg, Int.reduceSub, Int.reduceAdd, Int.reduceMul, decide_eq_false (show ¬ (ffit GM GX q : Int) ≠ 0 by omega)]); rfl)) (h := ?_))
                  (refine M_no (h := ?_))
                  (refine M_reg (he := by ((simp (disch := first | omega | simp) only [go_sem, ↓reduceIte, Nat.reduceLT, Nat.reduceAdd, Nat.reduceMul, Nat.reduceSub, Nat.reduceEqDiff, reduceCtorEq, Int.reduceToNat, Nat.reducePow, Int.reduceNeg, Int.reduceSub, Int.reduceAdd, Int.reduceMul, hg_t0, hBx, hup]); rfl)) (h := ?_))
                  (refine M_reg (h := ?_))
                  refine S_less (σ' := ⟨205, [(6, .int .i64 0)], ⟨B.set L (some ⟨v, 5, [fac GM GX q false]⟩), vc3⟩⟩) ?_ ?_
                  · ((refine wk_tail ?_ (by first | exact Nat.le_refl _ | omega); simp only [List.forall_mem_cons, List.not_mem_nil, false_implies, implies_true, look_cons, cast0, fz_same, fz_t0, fz_t1, fz_t2, fz_t3, ↓reduceIte, Nat.reduceEqDiff, Nat.reduceAdd, and_true, true_and, and_self]))
                  refine S_ret (finA (Q := QQ) (by (simp (disch := first | omega | simp) only [go_sem, ↓reduceIte, Nat.reduceLT, Nat.reduceAdd, Nat.reduceMul, Nat.reduceSub, Nat.reduceEqDiff, reduceCtorEq, Int.reduceToNat, Nat.reducePow, Int.reduceNeg, Int.reduceSub, Int.reduceAdd, Int.reduceMul, Tryd.results18]); rfl) (hfin _ _ ⟨fun q => absurd h7 q, fun _ => ⟨rfl, rfl⟩⟩))
                · (refine M_post (he := by ((simp (disch := first | omega | simp) only [go_sem, ↓reduceIte, Nat.reduceLT, Nat.reduceAdd, Nat.reduceMul, Nat.reduceSub, Nat.reduceEqDiff, reduceCtorEq, Int.reduceToNat, Nat.reducePow, Int.reduceNeg, Int.reduceSub, Int.reduceAdd, Int.reduceMul, decide_eq_true (show (ffit GM GX q : Int) ≠ 0 by omega)]); rfl)) (h := ?_))
                  (refine M_yes (h := ?_))
                  (refine M_reg (h := ?_))
                  refine S_less (σ' := ⟨205, [(6, .int .i64 2)], ⟨B, vc3⟩⟩) ?_ ?_
                  · ((refine wk_tail ?_ (by first | exact Nat.le_refl _ | omega); simp only [List.forall_mem_cons, List.not_mem_nil, false_implies, implies_true, look_cons, cast0, fz_same, fz_t0, fz_t1, fz_t2, fz_t3, ↓reduceIte, Nat.reduceEqDiff, Nat.reduceAdd, and_true, true_and, and_self]))
                  refine S_ret (finA (Q := QQ) (by (simp (disch := first | omega | simp) only [go_sem, ↓reduceIte, Nat.reduceLT, Nat.reduceAdd, Nat.reduceMul, Nat.reduceSub, Nat.reduceEqDiff, reduceCtorEq, Int.reduceToNat, Nat.reducePow, Int.reduceNeg, Int.reduceSub, Int.reduceAdd, Int.reduceMul, Tryd.results18]); rfl) (hfin _ _ ⟨fun _ => ⟨rfl, rfl⟩, fun q => absurd q h7⟩))
end
end Go.Gh

set_option linter.unusedVariables false
set_option linter.unusedSimpArgs false
namespace Go.Gh
open Go.Proofs
attribute [local irreducible] wpS wpR wpT
theorem outG_two {G : List (List Rat)} : (outG G).2 = 0 ↔ ∀ r ∈ G, ∀ q ∈ r, ql q ≤ 2000 := by
  constructor
  · intro h
    apply Classical.byContradiction
    intro hn
    rw [outG, if_neg hn] at h
    simp at h
  · intro h; rw [outG_ok h]
theorem rfit_zero {d : Rat} : rfit d = 0 ↔ ql d ≤ 2000 := by
  unfold rfit; split <;> omega
theorem fits_mk {n w : Nat} {f : Nat → Nat → Rat} : (∀ r ∈ mkG n w f, ∀ q ∈ r, ql q ≤ 2000) ↔ ∀ r c, r < n → c < w → ql (f r c) ≤ 2000 := by
  constructor
  · intro h r c hr hc
    exact h ((List.range w).map (f r)) (List.mem_map.2 ⟨r, List.mem_range.2 hr, rfl⟩) _ (List.mem_map.2 ⟨c, List.mem_range.2 hc, rfl⟩)
  · intro h row hrow q hq
    obtain ⟨r, hr, rfl⟩ := mkG_mem hrow
    obtain ⟨c, hc, rfl⟩ := List.mem_map.1 hq
    exact h r c hr (List.mem_range.1 hc)
theorem ffit_zero {n : Nat} {f g : Nat → Nat → Qz} {d : Rat} : ffit (mkG n n f) (mkG n n g) d = 0 ↔ (∀ r c, r < n → c < n → ql (f r c).1 ≤ 2000) ∧ (∀ r c, r < n → c < n → ql (g r c).1 ≤ 2000) ∧ ql d ≤ 2000 := by
  have e1 : (outG ((mkG n n f).map vals)).2 = 0 ↔ ∀ r c, r < n → c < n → ql (f r c).1 ≤ 2000 := by rw [outG_two, vals_mk, fits_mk]
  have e2 : (outG ((mkG n n g).map vals)).2 = 0 ↔ ∀ r c, r < n → c < n → ql (g r c).1 ≤ 2000 := by rw [outG_two, vals_mk, fits_mk]
  unfold ffit
  constructor
  · intro h
    by_cases h1 : (outG ((mkG n n f).map vals)).2 = 0
    · rw [if_neg (fun q => q h1)] at h
      by_cases h2 : (outG ((mkG n n g).map vals)).2 = 0
      · rw [if_neg (fun q => q h2)] at h
        exact ⟨e1.1 h1, e2.1 h2, rfit_zero.1 h⟩
      · rw [if_pos h2] at h; exact absurd h h2
    · rw [if_pos h1] at h; exact absurd h h1
  · rintro ⟨h1, h2, h3⟩
    rw [if_neg (fun q => q (e1.2 h1)), if_neg (fun q => q (e2.2 h2))]
    exact rfit_zero.2 h3
section
variable {n : Nat} {fM fX : Nat → Nat → Qz} {UQ WQ : List Qz}
theorem rq_val (r : Nat) : (rtP WQ fX n r n).1 = fcR n (fun r c => (fX r c).1) (qe WQ) r := sm_congr fun j hj => by rw [qe_col hj]
theorem by_val : (byP WQ (fun r => tmP (fX r) UQ n) n).1 = fcB n (fun r c => (fX r c).1) (qe UQ) (qe WQ) := byP_val n
theorem nX_val {b : Rat} (hb : b = (byP WQ (fun r => tmP (fX r) UQ n) n).1) : (fun r c => (nXq fX (fun r => tmP (fX r) UQ n) (fun r => rtP WQ fX n r n) b r c).1) = fcX n (fun r c => (fX r c).1) (qe UQ) (qe WQ) := by
  funext r c
  unfold fcX
  rw [← rq_val, ← by_val, ← hb]; rfl
end
theorem c_fUpdV {B : List (Option Blk)} {L v vc n : Nat} {fM fX : Nat → Nat → Qz} {d : Rat} {z : Bool} (hB : B[L]? = some (some ⟨v, 5, [fac (mkG n n fM) (mkG n n fX) d z]⟩)) (hn : n ≤ 40) (hM : ∀ r c, r < n → c < n → ql (fM r c).1 ≤ 2000) (hX : ∀ r c, r < n → c < n → ql (fX r c).1 ≤ 2000) (hd : ql d ≤ 2000)
    (U W : List Rat) (hU : U.length = n) (hW : W.length = n) (qU : ∀ x ∈ U, ql x ≤ 2000) (qW : ∀ x ∈ W, ql x ≤ 2000) (M X : Nat → Nat → Rat) (u w : Nat → Rat) (eM : ∀ r c, r < n → c < n → (fM r c).1 = M r c) (eX : ∀ r c, r < n → c < n → (fX r c).1 = X r c) (eu : ∀ j, j < n → U.getD j 0 = u j) (ew : ∀ j, j < n → W.getD j 0 = w j) :
    AC Tryd.prog 18 [.ptr L v 5 0 0, txs (U.map rtext), txs (W.map rtext)] ⟨B, vc⟩ (fun r h => ∃ vc', 
      (fcB n X u w = 0 ∧ r = .int .i64 10 ∧ h = ⟨B, vc'⟩) ∨
      (fcB n X u w ≠ 0 ∧ ¬ ((∀ r c, r < n → c < n → ql (M r c + u r * w c) ≤ 2000) ∧ (∀ r c, r < n → c < n → ql (fcX n X u w r c) ≤ 2000) ∧ ql (d * fcB n X u w) ≤ 2000) ∧ r = .int .i64 2 ∧ h = ⟨B, vc'⟩) ∨
      (fcB n X u w ≠ 0 ∧ ((∀ r c, r < n → c < n → ql (M r c + u r * w c) ≤ 2000) ∧ (∀ r c, r < n → c < n → ql (fcX n X u w r c) ≤ 2000) ∧ ql (d * fcB n X u w) ≤ 2000) ∧ r = .int .i64 0 ∧ ∃ fM' fX',
        (∀ r c, r < n → c < n → (fM' r c).1 = M r c + u r * w c) ∧ (∀ r c, r < n → c < n → (fX' r c).1 = fcX n X u w r c) ∧
        h = ⟨B.set L (some ⟨v, 5, [fac (mkG n n fM') (mkG n n fX') (d * fcB n X u w) false]⟩), vc'⟩)) := by
  have k := c_fUpd (vc := vc) hB hn hM hX hd U W hU hW qU qW _ _ rfl rfl _ _ rfl rfl
  have eqU : ∀ j, j < n → qe (U.map fun x => ((x, true) : Qz)) j = u j := fun j hj => by rw [qe_tr]; exact eu j hj
  have eqW : ∀ j, j < n → qe (W.map fun x => ((x, true) : Qz)) j = w j := fun j hj => by rw [qe_tr]; exact ew j hj
  have vL : ∀ r, r < n → fcL n (fun r c => (fX r c).1) (qe (U.map fun x => ((x, true) : Qz))) r = fcL n X u r := fun r hr => sm_congr fun j hj => by simp only; rw [eX r j hr hj, eqU j hj]
  have vR : ∀ c, c < n → fcR n (fun r c => (fX r c).1) (qe (W.map fun x => ((x, true) : Qz))) c = fcR n X w c := fun c hc => sm_congr fun j hj => by simp only; rw [eX j c hj hc, eqW j hj]
  have vB : fcB n (fun r c => (fX r c).1) (qe (U.map fun x => ((x, true) : Qz))) (qe (W.map fun x => ((x, true) : Qz))) = fcB n X u w := by
    unfold fcB
    congr 1
    exact sm_congr fun j hj => by rw [eqW j hj, vL j hj]
  have vX : ∀ r c, r < n → c < n → fcX n (fun r c => (fX r c).1) (qe (U.map fun x => ((x, true) : Qz))) (qe (W.map fun x => ((x, true) : Qz))) r c = fcX n X u w r c := fun r c hr hc => by
    unfold fcX
    rw [vL r hr, vR c hc, vB]; simp only; rw [eX r c hr hc]
  have hXv := nX_val (n := n) (fX := fX) (UQ := U.map fun x => ((x, true) : Qz)) (WQ := W.map fun x => ((x, true) : Qz)) rfl
  have hbv := by_val (n := n) (fX := fX) (UQ := U.map fun x => ((x, true) : Qz)) (WQ := W.map fun x => ((x, true) : Qz))
  rw [vB] at hbv
  rw [hbv] at k
  have nXv : ∀ r c, r < n → c < n → (nXq fX (fun r => tmP (fX r) (U.map fun x => ((x, true) : Qz)) n) (fun r => rtP (W.map fun x => ((x, true) : Qz)) fX n r n) (fcB n X u w) r c).1 = fcX n X u w r c := fun r c hr hc => by
    rw [← vX r c hr hc, ← hXv, hbv]
  have nMv : ∀ r c, r < n → c < n → (nMq fM (U.map fun x => ((x, true) : Qz)) (W.map fun x => ((x, true) : Qz)) r c).1 = M r c + u r * w c := fun r c hr hc => by
    show (fM r c).1 + qe _ r * qe _ c = _
    rw [eM r c hr hc, eqU r hr, eqW c hc]
  have hfit : ffit (mkG n n (nMq fM (U.map fun x => ((x, true) : Qz)) (W.map fun x => ((x, true) : Qz)))) (mkG n n (nXq fX (fun r => tmP (fX r) (U.map fun x => ((x, true) : Qz)) n) (fun r => rtP (W.map fun x => ((x, true) : Qz)) fX n r n) (fcB n X u w))) (d * fcB n X u w) = 0 ↔
      ((∀ r c, r < n → c < n → ql (M r c + u r * w c) ≤ 2000) ∧ (∀ r c, r < n → c < n → ql (fcX n X u w r c) ≤ 2000) ∧ ql (d * fcB n X u w) ≤ 2000) := by
    rw [ffit_zero]
    constructor
    · rintro ⟨h1, h2, h3⟩
      exact ⟨fun r c hr hc => by rw [← nMv r c hr hc]; exact h1 r c hr hc, fun r c hr hc => by rw [← nXv r c hr hc]; exact h2 r c hr hc, h3⟩
    · rintro ⟨h1, h2, h3⟩
      exact ⟨fun r c hr hc => by rw [nMv r c hr hc]; exact h1 r c hr hc, fun r c hr hc => by rw [nXv r c hr hc]; exact h2 r c hr hc, h3⟩
  refine k.wk ?_
  rintro r h ⟨vc', h1, h2⟩
  refine ⟨r, h, ⟨vc', ?_⟩, .wk (fun _ => False) ⟨rfl, fun t => .same _, fun l b hb => ⟨id, b, hb, rfl, rfl, Nat.le_refl _, fun i h1 h2 => ⟨rfl, fun j hj hj' => .same _⟩⟩, Nat.le_refl _⟩⟩
  by_cases hb : fcB n X u w = 0
  · exact .inl ⟨hb, h1 hb⟩
  · right
    obtain ⟨h3, h4⟩ := h2 hb
    by_cases hf : ffit (mkG n n (nMq fM (U.map fun x => ((x, true) : Qz)) (W.map fun x => ((x, true) : Qz)))) (mkG n n (nXq fX (fun r => tmP (fX r) (U.map fun x => ((x, true) : Qz)) n) (fun r => rtP (W.map fun x => ((x, true) : Qz)) fX n r n) (fcB n X u w))) (d * fcB n X u w) = 0
    · obtain ⟨h5, h6⟩ := h4 hf
      exact .inr ⟨hb, hfit.1 hf, h5, _, _, nMv, nXv, h6⟩
    · exact .inl ⟨hb, fun q => hf (hfit.2 q), h3 hf⟩
end Go.Gh

set_option linter.unusedVariables false
set_option linter.unusedSimpArgs false
namespace Go.Gh
open Go.Proofs
attribute [local irreducible] wpS wpR wpT
theorem fa_inv : invT [[[50]]] = (mtext (invM S2), 0) := by
  rw [sf_inv, show invM S2 = [[mkRat 1 2]] by kernel_rfl]
  simp [mtext, q_half]
theorem fa_det : detT [[[50]]] = (rtext (detM S2), 0) := by
  have hs : sqC (mtext S2) = 0 := by
    rw [sqC, if_neg (by rw [mchk_t ok_S2]; simp), if_neg (by rw [wid_mtext]; simp [mtext, widR])]
  rw [← t_S2, detT, if_neg (by rw [hs]; simp), mval_mtext, show detM S2 = mkRat 2 1 by kernel_rfl, rtld_small (Nat.le_trans lit2 (by omega))]
theorem fa_ok : FOk S2 (invM S2) (detM S2) :=
  ⟨ok_S2, rfl, rfl, by kernel_rfl, fun r hr q hq => by
    rw [show invM S2 = [[mkRat 1 2]] by kernel_rfl, List.mem_singleton] at hr
    rw [hr, List.mem_singleton] at hq
    rw [hq]; exact lit_ql q_half (by kernel_rfl), rfl, by rw [show detM S2 = mkRat 2 1 by kernel_rfl]; exact Nat.le_trans lit2 (by omega)⟩
theorem fa_fac : fac (gin S2) (gin (invM S2)) (detM S2) true = fac (mkG 1 1 fun _ _ => (mkRat 2 1, true)) (mkG 1 1 fun _ _ => (mkRat 1 2, true)) (mkRat 2 1) true := by
  rw [show invM S2 = [[mkRat 1 2]] by kernel_rfl, show detM S2 = mkRat 2 1 by kernel_rfl]; rfl
theorem getD1 {x : Rat} : ∀ j, j < 1 → [x].getD j 0 = x := fun j hj => by
  have : j = 0 := by omega
  subst this; rfl
theorem q_fifth : rtext (mkRat 1 5) = [49, 47, 53] := rt_lit (by kernel_rfl) (by kernel_rfl) (by simp [d1, d5])
theorem eX50 : fcX 1 (fun _ _ => mkRat 1 2) (fun _ => mkRat 1 1) (fun _ => mkRat 3 1) 0 0 = mkRat 1 5 := by kernel_rfl
theorem eX5 {r c : Nat} : fcX 1 (fun _ _ => mkRat 1 2) (fun _ => mkRat 1 1) (fun _ => mkRat 3 1) r c = mkRat 1 5 := eX50
theorem eM5 : mkRat 2 1 + mkRat 1 1 * mkRat 3 1 = mkRat 5 1 := by kernel_rfl
set_option maxHeartbeats 1000000 in
set_option maxRecDepth 10000 in
theorem c_factorFact : PC Tryd.prog 15 [] (.bool true) := by
  have k1 := c_fNewOk [[[50]]] (by rw [← t_S2]; exact fitM ok_S2) S2 t_S2.symm fa_ok fa_inv fa_det [] 0
  rw [fa_fac, List.nil_append, List.length_nil] at k1
  have k2 := c_fSolve (B := [some ⟨0, 5, [fac (mkG 1 1 fun _ _ => (mkRat 2 1, true)) (mkG 1 1 fun _ _ => (mkRat 1 2, true)) (mkRat 2 1) true]⟩]) (L := 0) (v := 0) (vc := 1) (n := 1) (gM := mkG 1 1 fun _ _ => (mkRat 2 1, true)) (d := mkRat 2 1) (z := true) rfl (fun r c _ _ => lit_ql q_half (by kernel_rfl)) [mkRat 3 1] rfl (by omega) (in1 (Nat.le_trans lit3 (by omega))) mkG_len
  rw [show outL ((List.range 1).map fun r => sm 1 fun j => mkRat 1 2 * [mkRat 3 1].getD j 0) = ([[51, 47, 50]], 0) by
    rw [show ((List.range 1).map fun r => sm 1 fun j => mkRat 1 2 * [mkRat 3 1].getD j 0) = [mkRat 3 2] by kernel_rfl, outL_ok (in1 (lit_ql q_32 (by kernel_rfl)))]
    simp [q_32], show [mkRat 3 1].map rtext = [[51]] by simp [q_3]] at k2
  have k3 := c_fUpdV (B := [some ⟨0, 5, [fac (mkG 1 1 fun _ _ => (mkRat 2 1, true)) (mkG 1 1 fun _ _ => (mkRat 1 2, true)) (mkRat 2 1) true]⟩]) (L := 0) (v := 0) (vc := 1) (n := 1) (d := mkRat 2 1) (z := true) rfl (by omega) (fun r c _ _ => Nat.le_trans lit2 (by omega)) (fun r c _ _ => lit_ql q_half (by kernel_rfl)) (Nat.le_trans lit2 (by omega)) [mkRat 1 1] [mkRat 3 1] rfl rfl (in1 (Nat.le_trans lit1 (by omega))) (in1 (Nat.le_trans lit3 (by omega))) (fun _ _ => mkRat 2 1) (fun _ _ => mkRat 1 2) (fun _ => mkRat 1 1) (fun _ => mkRat 3 1) (fun _ _ _ _ => rfl) (fun _ _ _ _ => rfl) getD1 getD1
  rw [show fcB 1 (fun _ _ => mkRat 1 2) (fun _ => mkRat 1 1) (fun _ => mkRat 3 1) = mkRat 5 2 by kernel_rfl, show mkRat 2 1 * mkRat 5 2 = mkRat 5 1 by kernel_rfl, show [mkRat 1 1].map rtext = [[49]] by simp [q_1], show [mkRat 3 1].map rtext = [[51]] by simp [q_3]] at k3
  refine PC.run Tryd.func15 rfl (by kernel_rfl) (by simp [Tryd.ntmps15]) ?_
  rw [Tryd.ntmps15]
  (refine M_reg (h := ?_))
  (refine M_pre (h := ?_))
  (refine M_calla (hp := k1) (h := ?_))
  rintro r h ⟨rfl, rfl⟩
  (refine M_post (h := ?_))
  (refine M_reg (h := ?_))
  (refine M_no (h := ?_))
  (refine M_pre (h := ?_))
  (refine M_calla (hp := k2) (h := ?_))
  rintro r h ⟨rfl, rfl⟩
  (refine M_post (h := ?_))
  (refine M_pre (h := ?_))
  (refine M_calla (hp := k3) (h := ?_))
  rintro r h ⟨vc', h1 | ⟨_, h1, _⟩ | ⟨_, _, rfl, fM, fX, hM, hX, rfl⟩⟩
  · exfalso
    have e1 : (mkRat 5 2).num = 5 := by kernel_rfl
    rw [h1.1] at e1
    exact absurd e1 (by decide)
  · exfalso
    refine h1 ⟨fun r c _ _ => ?_, fun r c _ _ => ?_, Nat.le_trans lit5 (by omega)⟩
    · rw [show mkRat 2 1 + mkRat 1 1 * mkRat 3 1 = mkRat 5 1 by kernel_rfl]; exact Nat.le_trans lit5 (by omega)
    · rw [eX5]; exact lit_ql q_fifth (by kernel_rfl)
  have vM : (mkG 1 1 fM).map vals = [[mkRat 5 1]] := by
    rw [vals_mk, mkG_congr (g := fun _ _ => mkRat 5 1) fun r c hr hc => by rw [hM r c hr hc]; kernel_rfl]; rfl
  have vX : ∀ r c, r < 1 → c < 1 → (fX r c).1 = mkRat 1 5 := fun r c hr hc => by rw [hX r c hr hc, eX5]
  have vM' : ∀ r c, r < 1 → c < 1 → (fM r c).1 = mkRat 5 1 := fun r c hr hc => by rw [hM r c hr hc, eM5]
  have hrow : ∀ r ∈ mkG 1 1 fM, r.length ≤ 1000 ∧ ∀ p ∈ r, ql p.1 ≤ 100000000000 := fun r hr => by
    obtain ⟨a, ha, rfl⟩ := mkG_mem hr
    refine ⟨by simp, fun p hp => ?_⟩
    obtain ⟨c, hc, rfl⟩ := List.mem_map.1 hp
    rw [vM' a c ha (List.mem_range.1 hc)]; exact Nat.le_trans lit5 (by omega)
  have k4 := c_fMatrix (B := [some (Blk.mk 0 5 [fac (mkG 1 1 fM) (mkG 1 1 fX) (mkRat 5 1) false])]) (L := 0) (v := 0) (vc := vc') rfl (by rw [mkG_len]; omega) hrow
  rw [vM, outG_ok (fun r hr => by
    rw [List.mem_singleton.1 hr]
    exact in1 (Nat.le_trans lit5 (by omega))), show mtext [[mkRat 5 1]] = [[[53]]] by simp [mtext, q_5]] at k4
  have k5 := c_fDet (B := [some (Blk.mk 0 5 [fac (mkG 1 1 fM) (mkG 1 1 fX) (mkRat 5 1) false])]) (L := 0) (v := 0) (vc := vc') rfl (Nat.le_trans lit5 (by omega))
  rw [rtld_small (Nat.le_trans lit5 (by omega)), q_5] at k5
  have k6 := c_fSide (B := [some (Blk.mk 0 5 [fac (mkG 1 1 fM) (mkG 1 1 fX) (mkRat 5 1) false])]) (L := 0) (v := 0) (vc := vc') rfl
  rw [mkG_len] at k6
  have k7 := c_fUpdV (B := [some ⟨0, 5, [fac (mkG 1 1 fM) (mkG 1 1 fX) (mkRat 5 1) false]⟩]) (L := 0) (v := 0) (vc := vc') (n := 1) (d := mkRat 5 1) (z := false) rfl (by omega) (fun r c hr hc => by rw [vM' r c hr hc]; exact Nat.le_trans lit5 (by omega)) (fun r c hr hc => by rw [vX r c hr hc]; exact lit_ql q_fifth (by kernel_rfl)) (Nat.le_trans lit5 (by omega)) [mkRat 1 1] [mkRat (-5) 1] rfl rfl (in1 (Nat.le_trans lit1 (by omega))) (in1 (Nat.le_trans litm5 (by omega))) (fun _ _ => mkRat 5 1) (fun _ _ => mkRat 1 5) (fun _ => mkRat 1 1) (fun _ => mkRat (-5) 1) vM' vX getD1 getD1
  rw [show fcB 1 (fun _ _ => mkRat 1 5) (fun _ => mkRat 1 1) (fun _ => mkRat (-5) 1) = 0 by kernel_rfl, show [mkRat 1 1].map rtext = [[49]] by simp [q_1], show [mkRat (-5) 1].map rtext = [[45, 53]] by simp [q_m5]] at k7
  have cf := c_fine [0, 0, 0, 0]
  rw [fine_zero (by simp)] at cf
  have d1 := c_eqVec [[51, 47, 50]] [[51, 47, 50]]
  have d2 := c_Same [[[53]]] [[[53]]] (by simp)
  rw [decide_eq_true rfl] at d1 d2
  (refine M_post (h := ?_))
  (refine M_pre (h := ?_))
  (refine M_calla (hp := k4) (h := ?_))
  rintro r h ⟨rfl, rfl⟩
  (refine M_post (h := ?_))
  (refine M_pre (h := ?_))
  (refine M_calla (hp := k5) (h := ?_))
  rintro r h ⟨rfl, rfl⟩
  (refine M_post (h := ?_))
  (refine M_pre (h := ?_))
  (refine M_call (hp := cf) (hn := (nr1 (nr_ints _))) (h := ?_))
  (refine M_mid (h := ?_))
  (refine M_call (hp := d1) (hn := (nr2' (nr_txs _) (nr_txs _))) (h := ?_))
  (refine M_mid (h := ?_))
  (refine M_call (hp := d2) (hn := (nr2' (nr_mtx _) (nr_mtx _))) (h := ?_))
  (refine M_mid (h := ?_))
  (refine M_calla (hp := k6) (h := ?_))
  rintro r h ⟨rfl, rfl⟩
  (refine M_mid (he := by ((simp (disch := first | omega | simp) only [go_sem, ↓reduceIte, Nat.reduceLT, Nat.reduceAdd, Nat.reduceMul, Nat.reduceSub, Nat.reduceEqDiff, reduceCtorEq, Int.reduceToNat, Nat.reducePow, Int.reduceNeg, Int.reduceSub, Int.reduceAdd, Int.reduceMul, show ((1 : Nat) : Int) = 1 from rfl]); rfl)) (h := ?_))
  (refine M_calla (hp := k7) (h := ?_))
  rintro r h ⟨vc2, ⟨_, rfl, rfl⟩ | ⟨h1, _⟩ | ⟨h1, _⟩⟩
  · (refine M_post (h := ?_))
    (first | refine M_finn Tryd.results15 (h2 := ?_) | refine M_finne Tryd.results15 (h2 := ?_))
    exact .nr _ (.bool _)
  · exact absurd rfl h1
  · exact absurd rfl h1
end Go.Gh

set_option linter.unusedVariables false
set_option linter.unusedSimpArgs false
namespace Go.Gh
open Go.Proofs
attribute [local irreducible] wpS wpR wpT
theorem invM_wid {M : List (List Rat)} : ∀ q ∈ invM M, q.length = M.length := fun q hq => by
  rw [invM] at hq
  obtain ⟨i, hi, rfl⟩ := mkG_mem hq
  simp
theorem fac_gin {M : List (List Rat)} {d : Rat} (hF : FOk M (invM M) d) : fac (gin M) (gin (invM M)) d true = fac (mkG M.length M.length fun r c => (mel M r c, true)) (mkG M.length M.length fun r c => (mel (invM M) r c, true)) d true := by
  rw [gin_mk (m := M) (w := M.length) fun q hq => ((hF.m.row q hq).1).trans hF.w, gin_mk (m := invM M) (w := M.length) invM_wid, invM_len]
theorem FOk.mq {M X : List (List Rat)} {d : Rat} (hF : FOk M X d) : ∀ r c, r < M.length → c < M.length → ql (mel M r c) ≤ 2000 := fun r c hr hc => ql_mel hF.m hr (by rw [hF.w]; exact hc)
theorem FOk.xq {M X : List (List Rat)} {d : Rat} (hF : FOk M X d) : ∀ r c, r < M.length → c < M.length → ql (mel (invM M) r c) ≤ 2000 := fun r c hr hc => by
  have h := hF.qx
  rw [hF.x, invM, fits_mk] at h
  rw [invM, mel_mk hr hc]
  exact h r c hr hc
theorem invT_cases (m : List (List (List UInt8))) : ((invT m).2 ≠ 0 ∧ (invT m).1 = []) ∨ ∃ M, m = mtext M ∧ MOk M ∧ widR M = M.length ∧ (echK (idM M) M.length M.length).2.length = M.length ∧ (∀ r ∈ invM M, ∀ q ∈ r, ql q ≤ 2000) ∧ invT m = (mtext (invM M), 0) := by
  rcases sqcases m with h1 | ⟨M, rfl, hM, hw, h1⟩
  · left
    rw [invT, if_pos h1]; exact ⟨h1, rfl⟩
  · have hml : (mtext M).length = M.length := List.length_map _
    have ei : invT (mtext M) = if (echK (idM M) M.length M.length).2.length < M.length then ([], 10) else outG (invM M) := by rw [invT, if_neg (fun q => q h1), mval_mtext, hml]
    rw [ei]
    by_cases hp : (echK (idM M) M.length M.length).2.length < M.length
    · rw [if_pos hp]; exact .inl ⟨by simp, rfl⟩
    · rw [if_neg hp]
      have hle := echK_len (V := idM M) (n := M.length) M.length
      by_cases hq : ∀ r ∈ invM M, ∀ q ∈ r, ql q ≤ 2000
      · exact .inr ⟨M, rfl, hM, hw, by omega, hq, by rw [outG_ok hq]⟩
      · rw [outG, if_neg hq]; exact .inl ⟨by simp, rfl⟩
theorem fvec_cases {n : Nat} (u : List (List UInt8)) : fvec n u ≠ 0 ∨ ∃ U : List Rat, u = U.map rtext ∧ U.length = n ∧ ∀ x ∈ U, ql x ≤ 2000 := by
  by_cases h : fvec n u = 0
  · obtain ⟨U, h1, h2, _, h3⟩ := fvec_zero h
    exact .inr ⟨U, h1, h2, h3⟩
  · exact .inl h
theorem rows_fit {n : Nat} {f : Nat → Nat → Qz} (hn : n ≤ 40) (h : ∀ r c, r < n → c < n → ql (f r c).1 ≤ 2000) : ∀ r ∈ mkG n n f, r.length ≤ 1000 ∧ ∀ p ∈ r, ql p.1 ≤ 100000000000 := fun r hr => by
  obtain ⟨a, ha, rfl⟩ := mkG_mem hr
  refine ⟨by simp; omega, fun p hp => ?_⟩
  obtain ⟨c, hc, rfl⟩ := List.mem_map.1 hp
  exact Nat.le_trans (h a c ha (List.mem_range.1 hc)) (by omega)
end Go.Gh
