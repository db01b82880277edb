/- Own work, a part of the proof (Fw29). Conditions: none. -/
import Derived.Test.YtibdaenoopclbaaDoorFw28
set_option linter.unusedVariables false
set_option linter.unusedSimpArgs false
namespace Go.Gh
inductive ReifN (h:Heap):AV→AV→Prop
 | sc (x:AV) (hx:Sc x):ReifN h x x
 | nil (es:Nat):ReifN h .nilsl (.vec es [])
 | sl0 (l ver es off es':Nat):ReifN h (.sl l ver es off 0) (.vec es' [])
 | sl (l ver es off len:Nat) (k:Blk) (ys:List AV) (hk:hget h l=some k) (h1:k.ver=ver) (h2:k.es=es) (h3:off + len≤k.elems.length) (h4:ys.length=len)
   (he:∀ i (hi:i < len) (h':off + i < k.elems.length) (h'':i < ys.length),(ys[i]).cells.length=(k.elems[off + i]).cells.length)
   (hc:∀ i (hi:i < len) (h':off + i < k.elems.length) (h'':i < ys.length) j (hj:j < (k.elems[off + i]).cells.length) (hj':j < (ys[i]).cells.length),ReifN h (k.elems[off + i]).cells[j] (ys[i]).cells[j]):ReifN h (.sl l ver es off len) (.vec es ys)
 | agg (xs ys:List AV) (hl:xs.length=ys.length) (hc:∀ i (h1:i < xs.length) (h2:i < ys.length),ReifN h xs[i] ys[i]):ReifN h (.agg xs) (.agg ys)
 | tup (xs ys:List AV) (hl:xs.length=ys.length) (hc:∀ i (h1:i < xs.length) (h2:i < ys.length),ReifN h xs[i] ys[i]):ReifN h (.tup xs) (.tup ys)
section
variable {P:Program} {Q:St→Prop} {k:List It} {σ σ':St} {ro:List Nat}
end
section
variable {P:Program} {Q:St→Prop} {k0 k1 k:List It} {σ:St}
end
end Go.Gh
