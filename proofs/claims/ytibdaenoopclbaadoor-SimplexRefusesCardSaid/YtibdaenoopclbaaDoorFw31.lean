/- Own work, a part of the proof (Fw31). Conditions: none. -/
import Derived.Test.YtibdaenoopclbaaDoorFw30
set_option linter.unusedVariables false
set_option linter.unusedSimpArgs false
namespace Go.Gh
section
variable {P:Program} {Q:St→Prop} {k:List It} {σ:St}
theorem S_cut {α:Type} {c c':Code} (S:α→St) (p:α→Prop) (h:wpS P Q (.code c :: .goal (fun σ2=>∃ y,Less' σ2 (S y)∧p y) :: .code c' :: k) σ) (hk:∀ y,p y→wpS P Q (.code c' :: k) (S y)):wpS P Q (.code c :: .code c' :: k) σ:=by
 refine wpA_mono h ?_
 intro e σ' he
 cases e with
 | normal =>
  obtain ⟨y,h1,h2⟩:=he
  exact S_less h1 (hk y h2)
 | _=>exact he
end
section
variable {P:Program} {Q:St→Prop} {k:List It} {σ:St}
theorem S_cutB {α:Type} {c c':Code} {id:Nat} (S:α→St) (p:α→Prop) (h:wpS P Q (.code c :: .blk id :: .goal (fun σ2=>∃ y,Less' σ2 (S y)∧p y) :: .code c' :: k) σ) (hk:∀ y,p y→wpS P Q (.code c' :: k) (S y)):wpS P Q (.code c :: .blk id :: .code c' :: k) σ:=by
 refine wpA_mono h ?_
 have key:∀ σ2,(∃ y,Less' σ2 (S y)∧p y)→wpS P Q (.code c' :: k) σ2:=fun σ2 ⟨y,h1,h2⟩=>S_less h1 (hk y h2)
 intro e σ' he
 cases e with
 | normal=>exact key σ' he
 | exit j =>
  have e1:postS Q (den P Q (.blk id :: .goal (fun σ2=>∃ y,Less' σ2 (S y)∧p y) :: .code c' :: k)).1 (den P Q (.blk id :: .goal (fun σ2=>∃ y,Less' σ2 (S y)∧p y) :: .code c' :: k)).2 (.exit j) σ'=(if j=id then (∃ y,Less' σ' (S y)∧p y) else (den P Q (.code c' :: k)).2 j σ'):=rfl
  have e2:postS Q (den P Q (.blk id :: .code c' :: k)).1 (den P Q (.blk id :: .code c' :: k)).2 (.exit j) σ'=(if j=id then wpS P Q (.code c' :: k) σ' else (den P Q (.code c' :: k)).2 j σ'):=rfl
  rw [e1] at he
  rw [e2]
  by_cases q:j=id
  ·rw [if_pos q] at he ⊢;exact key σ' he
  ·rw [if_neg q] at he ⊢;exact he
 | _=>exact he
end
theorem AC.pc {P:Program} {K:FuncId} {args:List AV} {r:AV} (hac:AC P K args ⟨[],0⟩ (fun x h=>Reif h x r)):PC P K args r:=by
 refine ⟨hac.1,fun s vs hat hfix hv=>?_⟩
 have hhr:HR s ⟨[],0⟩:=⟨fun l b h=>by simp [hget] at h,fun l l' k k' b n n' h=>by simp [hget] at h,hfix,fun l v _=>by rw [hat];rfl⟩
 refine (hac.2 s vs hhr hv).mono ?_
 rintro e w' ⟨s',v,x,h',rfl,rfl,hre,hvr,hhr',hx⟩
 refine ⟨v,rfl,VR.mono (hre.ok hhr' hvr) (fun _ _ _=>rfl) ?_ (fun _ _ _ h=>h),hx.size,fun b hb=>hx.same b hb ?_,hx.os,hx.tape,hx.output⟩
 ·rintro b (hb | hb)
  ·rcases hx.new b hb with h | h | ⟨l,k,n,h1,_⟩
   ·exact .inl h
   ·exact .inr ⟨h,hhr'.fixed b hb⟩
   ·simp [hget] at h1
  ·obtain ⟨l,k,n,h1,h2⟩:=hb
   rcases hx.own b ⟨l,k,n,h1,h2⟩ with ⟨l',k',n',g1,_⟩ | h
   ·simp [hget] at g1
   ·exact .inr ⟨h,hhr'.lt h1 h2⟩
 ·rintro ⟨l,k,n,h1,_⟩
  simp [hget] at h1
@[go_sem] theorem tdiv_nn {a b:Int} (h:0≤a):a.tdiv b=a / b:=Int.tdiv_eq_ediv_of_nonneg h
@[go_sem] theorem tmod_nn {a b:Int} (h:0≤a):a.tmod b=a % b:=Int.tmod_eq_emod_of_nonneg h
theorem up_add (a b:Nat):(a:Int) + (b:Int)=((a + b:Nat):Int):=rfl
theorem up_mul (a b:Nat):(a:Int) * (b:Int)=((a * b:Nat):Int):=rfl
theorem up_div (a:Nat):(a:Int) / 1000000000=((a / 1000000000:Nat):Int):=rfl
theorem up_mod (a:Nat):(a:Int) % 1000000000=((a % 1000000000:Nat):Int):=rfl
theorem sub_app {D:Nat→Prop} {x:List (Option Blk)}:∀ (bl:List (Option Blk)) (k:Nat),(∀ l,k≤l→l < k + bl.length→¬ D l)→Sub D k bl (bl ++ x)
 | [],k,_=>by unfold Sub;trivial
 | none :: bl,k,h=>by
  rw [List.cons_append,Sub]
  exact sub_app bl (k + 1) fun l h1 h2=>h l (by omega) (by rw [List.length_cons];omega)
 | some b :: bl,k,h=>by
  rw [List.cons_append,Sub]
  exact ⟨h k (Nat.le_refl _) (by rw [List.length_cons];omega),rfl,sub_app bl (k + 1) fun l h1 h2=>h l (by omega) (by rw [List.length_cons];omega)⟩
theorem sub_last {bl x:List (Option Blk)}:Sub (fun l=>l=bl.length) 0 bl (bl ++ x):=sub_app _ _ fun l _ h e=>by omega
theorem sub_self {bl:List (Option Blk)}:Sub (fun _=>False) 0 bl bl:=by
 have:=sub_app (D:=fun _=>False) (x:=[]) bl 0 fun l _ _ h=>h
 rwa [List.append_nil] at this
end Go.Gh

namespace Go.Gh
def vl:List Nat→Nat
 | []=>0
 | d :: ds=>d + 1000000000 * vl ds
def Dg (xs:List Nat):Prop:=∀ d ∈ xs,d < 1000000000
def dig (n:Nat):List Nat:=if h:n=0 then [] else n % 1000000000 :: dig (n / 1000000000)
termination_by n
decreasing_by omega
noncomputable def bpF:{f:Nat→Nat // ∀ k,f k=1000000000 ^ k}:=Classical.choice ⟨⟨_,fun _=>rfl⟩⟩
noncomputable def bp (k:Nat):Nat:=bpF.1 k
theorem bp_eq (k:Nat):bp k=1000000000 ^ k:=bpF.2 k
theorem bp_zero:bp 0=1:=bp_eq 0
theorem bp_succ (k:Nat):bp (k + 1)=1000000000 * bp k:=by rw [bp_eq,bp_eq,Nat.pow_succ,Nat.mul_comm]
theorem bp_add (j k:Nat):bp (j + k)=bp j * bp k:=by rw [bp_eq,bp_eq,bp_eq,Nat.pow_add]
theorem bp_pos (k:Nat):0 < bp k:=by rw [bp_eq];exact Nat.pow_pos (by omega)
theorem bp_mono {j k:Nat} (h:j≤k):bp j≤bp k:=by rw [bp_eq,bp_eq];exact Nat.pow_le_pow_right (by omega) h
theorem vl_nil:vl []=0:=rfl
theorem vl_cons (d:Nat) (ds:List Nat):vl (d :: ds)=d + 1000000000 * vl ds:=rfl
theorem vl_app:∀ (xs ys:List Nat),vl (xs ++ ys)=vl xs + bp xs.length * vl ys
 | [],ys=>by simp [vl_nil,bp_zero]
 | d :: ds,ys=>by
  rw [List.cons_append,vl_cons,vl_cons,vl_app ds ys,List.length_cons,bp_succ,Nat.mul_add,Nat.mul_assoc];omega
theorem vl_snoc (xs:List Nat) (d:Nat):vl (xs ++ [d])=vl xs + bp xs.length * d:=by rw [vl_app,vl_cons,vl_nil];simp
theorem Dg.nil:Dg []:=fun _ h=>absurd h (by simp)
theorem Dg.cons {d:Nat} {ds:List Nat} (h:d < 1000000000) (hs:Dg ds):Dg (d :: ds):=by
 intro x hx
 rcases List.mem_cons.1 hx with rfl | hx
 ·exact h
 ·exact hs x hx
theorem Dg.app {xs ys:List Nat} (h:Dg xs) (h':Dg ys):Dg (xs ++ ys):=fun d hd=>by
 rcases List.mem_append.1 hd with q | q
 ·exact h d q
 ·exact h' d q
theorem Dg.tail {d:Nat} {ds:List Nat} (h:Dg (d :: ds)):Dg ds:=fun x hx=>h x (List.mem_cons_of_mem _ hx)
theorem Dg.head {d:Nat} {ds:List Nat} (h:Dg (d :: ds)):d < 1000000000:=h d (by simp)
theorem Dg.one {d:Nat} (h:d < 1000000000):Dg [d]:=.cons h .nil
theorem Dg.take {xs:List Nat} (h:Dg xs) (n:Nat):Dg (xs.take n):=fun d hd=>h d (List.mem_of_mem_take hd)
theorem Dg.drop {xs:List Nat} (h:Dg xs) (n:Nat):Dg (xs.drop n):=fun d hd=>h d (List.mem_of_mem_drop hd)
theorem Dg.get {xs:List Nat} (h:Dg xs) (i:Nat):xs.getD i 0 < 1000000000:=by
 rw [List.getD_eq_getElem?_getD]
 cases e:xs[i]? with
 | none=>simp
 | some x=>exact h x (List.mem_of_getElem? e)
theorem Dg.set {xs:List Nat} (h:Dg xs) {i d:Nat} (hd:d < 1000000000):Dg (xs.set i d):=fun x hx=>by
 rcases List.mem_or_eq_of_mem_set hx with q | rfl
 ·exact h x q
 ·exact hd
theorem Dg.rep (n:Nat):Dg (List.replicate n 0):=fun d hd=>by rw [(List.mem_replicate.1 hd).2];omega
theorem vl_rep:∀ n:Nat,vl (List.replicate n 0)=0
 | 0=>rfl
 | n + 1=>by rw [List.replicate_succ,vl_cons,vl_rep n]
theorem vl_lt:∀ {xs:List Nat},Dg xs→vl xs < bp xs.length
 | [],_=>by rw [vl_nil,List.length_nil,bp_zero];omega
 | d :: ds,h=>by
  have:=vl_lt h.tail
  have:=h.head
  rw [vl_cons,List.length_cons,bp_succ];omega
theorem dig_zero:dig 0=[]:=by rw [dig,dif_pos rfl]
theorem dig_pos {n:Nat} (h:n ≠ 0):dig n=n % 1000000000 :: dig (n / 1000000000):=by rw [dig,dif_neg h]
theorem vl_dig (n:Nat):vl (dig n)=n:=by
 induction n using Nat.strongRecOn with
 | _ n ih =>
  by_cases h:n=0
  ·subst h;rw [dig_zero];rfl
  ·rw [dig_pos h,vl_cons,ih _ (by omega)];omega
theorem dg_dig (n:Nat):Dg (dig n):=by
 induction n using Nat.strongRecOn with
 | _ n ih =>
  by_cases h:n=0
  ·subst h;rw [dig_zero];exact .nil
  ·rw [dig_pos h];exact .cons (by omega) (ih _ (by omega))
theorem dig_lt (n:Nat):n < bp (dig n).length:=by have:=vl_lt (dg_dig n);rwa [vl_dig] at this
def Cn (xs:List Nat):Prop:=xs=[] ∨ xs.getD (xs.length - 1) 0 ≠ 0
theorem dig_vl:∀ {xs:List Nat},Dg xs→Cn xs→dig (vl xs)=xs
 | [],_,_=>dig_zero
 | d :: ds,h,hc=>by
  have hd:=h.head
  have hcn:Cn ds:=by
   by_cases e:ds=[]
   ·exact .inl e
   ·refine .inr ?_
    rcases hc with q | q
    ·cases q
    ·have hl:0 < ds.length:=List.length_pos_iff.2 e
     rw [List.length_cons,Nat.add_sub_cancel] at q
     obtain ⟨m,hm⟩:∃ m,ds.length=m + 1:=⟨ds.length - 1,by omega⟩
     rw [hm,List.getD_cons_succ] at q
     rw [hm,Nat.add_sub_cancel];exact q
  have hne:vl (d :: ds) ≠ 0:=by
   rw [vl_cons]
   intro e
   have h0:vl ds=0:=by omega
   have h1:d=0:=by omega
   have:=dig_vl h.tail hcn
   rw [h0,dig_zero] at this
   subst this;subst h1
   rcases hc with q | q
   ·cases q
   ·exact q rfl
  rw [dig_pos hne,vl_cons]
  congr 1
  ·omega
  ·rw [show (d + 1000000000 * vl ds) / 1000000000=vl ds by omega]
   exact dig_vl h.tail hcn
theorem cn_dig (n:Nat):Cn (dig n):=by
 induction n using Nat.strongRecOn with
 | _ n ih =>
  by_cases h:n=0
  ·subst h;rw [dig_zero];exact .inl rfl
  ·rw [dig_pos h]
   refine .inr ?_
   rw [List.length_cons,Nat.add_sub_cancel]
   by_cases e:n / 1000000000=0
   ·rw [e,dig_zero,List.length_nil,List.getD_cons_zero];omega
   ·rcases ih _ (show n / 1000000000 < n by omega) with q | q
    ·rw [dig_pos e] at q;cases q
    ·have hl:0 < (dig (n / 1000000000)).length:=by rw [dig_pos e,List.length_cons];omega
     obtain ⟨m,hm⟩:∃ m,(dig (n / 1000000000)).length=m + 1:=⟨(dig (n / 1000000000)).length - 1,by omega⟩
     rw [hm,Nat.add_sub_cancel] at q
     rw [hm,List.getD_cons_succ];exact q
theorem cn_ge {xs:List Nat} (h:Cn xs) (hne:xs ≠ []):bp (xs.length - 1)≤vl xs:=by
 rcases h with q | q
 ·exact absurd q hne
 ·have hl:0 < xs.length:=List.length_pos_iff.2 hne
  have e:xs=xs.take (xs.length - 1) ++ [xs.getD (xs.length - 1) 0]:=by
   rw [List.getD_eq_getElem?_getD,List.getElem?_eq_getElem (by omega)]
   have:=List.take_append_drop (xs.length - 1) xs
   rw [List.drop_eq_getElem_cons (by omega)] at this
   rw [List.drop_eq_nil_of_le (by omega)] at this
   exact this.symm
  have:=vl_snoc (xs.take (xs.length - 1)) (xs.getD (xs.length - 1) 0)
  rw [← e,List.length_take,Nat.min_eq_left (by omega)] at this
  rw [this]
  have:bp (xs.length - 1) * 1≤bp (xs.length - 1) * xs.getD (xs.length - 1) 0:=Nat.mul_le_mul_left _ (by omega)
  omega
theorem dig_ge {n:Nat} (h:n ≠ 0):bp ((dig n).length - 1)≤n:=by
 have:=cn_ge (cn_dig n) (by rw [dig_pos h];simp)
 rwa [vl_dig] at this
theorem dig_len_le {n k:Nat} (h:n < bp k):(dig n).length≤k:=by
 by_cases e:n=0
 ·subst e;rw [dig_zero];simp
 ·have h1:=dig_ge e
  apply Classical.byContradiction
  intro hk
  have:=bp_mono (show k≤(dig n).length - 1 by omega)
  omega
theorem dig_len_lt {n k:Nat} (h:bp k≤n):k < (dig n).length:=by
 apply Classical.byContradiction
 intro hk
 have h1:=dig_lt n
 have:=bp_mono (show (dig n).length≤k by omega)
 omega
theorem dig_len_mono {a b:Nat} (h:a≤b):(dig a).length≤(dig b).length:=dig_len_le (by have:=dig_lt b;omega)
theorem dig_len_zero {n:Nat}:(dig n).length=0 ↔ n=0:=by
 constructor
 ·intro h
  have:=List.length_eq_zero_iff.1 h
  rw [← vl_dig n,this];rfl
 ·rintro rfl;rw [dig_zero];rfl
theorem dig_eq {xs:List Nat} {n:Nat} (h:Dg xs) (hv:vl xs=n) (hl:xs.length≤(dig n).length):dig n=xs:=by
 subst hv
 refine dig_vl h ?_
 by_cases e:xs=[]
 ·exact .inl e
 ·refine .inr fun h0=>?_
  have hl0:0 < xs.length:=List.length_pos_iff.2 e
  have e':xs=xs.take (xs.length - 1) ++ [0]:=by
   have:=List.take_append_drop (xs.length - 1) xs
   rw [List.drop_eq_getElem_cons (by omega)] at this
   rw [List.drop_eq_nil_of_le (by omega)] at this
   rw [List.getD_eq_getElem?_getD,List.getElem?_eq_getElem (by omega)] at h0
   simp only [Option.getD_some] at h0
   rw [h0] at this
   exact this.symm
  have h2:=vl_snoc (xs.take (xs.length - 1)) 0
  rw [← e',Nat.mul_zero,Nat.add_zero] at h2
  have h3:=vl_lt (h.take (xs.length - 1))
  rw [← h2,List.length_take,Nat.min_eq_left (by omega)] at h3
  have:=dig_len_le h3
  omega
theorem vl_take_succ {xs:List Nat} {i:Nat} (h:i < xs.length):vl (xs.take (i + 1))=vl (xs.take i) + bp i * xs.getD i 0:=by
 have:xs.take (i + 1)=xs.take i ++ [xs.getD i 0]:=by
  rw [List.take_add_one,List.getElem?_eq_getElem h,List.getD_eq_getElem?_getD,List.getElem?_eq_getElem h];rfl
 rw [this,vl_snoc,List.length_take,Nat.min_eq_left (by omega)]
theorem vl_take_ge {xs:List Nat} {i:Nat} (h:xs.length≤i):vl (xs.take i)=vl xs:=by rw [List.take_of_length_le h]
theorem vl_take_zero {xs:List Nat} {m:Nat} (h:∀ j,m≤j→j < xs.length→xs.getD j 0=0):vl (xs.take m)=vl xs:=by
 have hk:∀ k,m≤k→k≤xs.length→vl (xs.take k)=vl (xs.take m):=by
  intro k
  induction k with
  | zero=>intro h1 _;rw [show m=0 by omega]
  | succ k ih =>
   intro h1 h2
   by_cases e:m=k + 1
   ·rw [e]
   ·rw [vl_take_succ (by omega),ih (by omega) (by omega),h k (by omega) (by omega)];omega
 by_cases hm:m≤xs.length
 ·rw [← hk xs.length hm (Nat.le_refl _),List.take_length]
 ·rw [List.take_of_length_le (by omega)]
abbrev nums (xs:List Nat):AV:=.vec 1 (xs.map fun d:Nat=>.int .u32 (d:Int))
abbrev nat (n:Nat):AV:=nums (dig n)
theorem nr_nums (xs:List Nat):NR (nums xs):=.vec _ _ (by
 intro x hx
 obtain ⟨n,_,rfl⟩:=List.mem_map.1 hx
 constructor)
theorem getD_nums {xs:List Nat} {i:Nat} (h:i < xs.length):(xs.map fun d:Nat=>AV.int .u32 (d:Int)).getD i .undef=.int .u32 ((xs.getD i 0:Nat):Int):=by
 rw [List.getD_eq_getElem?_getD,List.getElem?_map,List.getElem?_eq_getElem h,List.getD_eq_getElem?_getD,List.getElem?_eq_getElem h];rfl
theorem set_nums (xs:List Nat) (i d:Nat):(xs.map fun d:Nat=>AV.int .u32 (d:Int)).set i (.int .u32 (d:Int))=(xs.set i d).map fun d:Nat=>AV.int .u32 (d:Int):=by
 rw [List.map_set]
theorem app_nums (xs:List Nat) (d:Nat):(xs.map fun d:Nat=>AV.int .u32 (d:Int)) ++ [.int .u32 (d:Int)]=(xs ++ [d]).map fun d:Nat=>AV.int .u32 (d:Int):=by simp
theorem take_nums (xs:List Nat) (k:Nat):(xs.map fun d:Nat=>AV.int .u32 (d:Int)).take k=(xs.take k).map fun d:Nat=>AV.int .u32 (d:Int):=by rw [List.map_take]
end Go.Gh
