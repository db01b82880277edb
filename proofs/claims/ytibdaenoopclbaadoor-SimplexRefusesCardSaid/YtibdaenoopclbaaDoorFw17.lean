/- Own work, a part of the proof (Fw17). Conditions: none. -/
import Derived.Test.YtibdaenoopclbaaDoorFw16
set_option linter.unusedVariables false
set_option linter.unusedSimpArgs false
namespace Go.Gh
section
variable {P:Program} {ρ:Operand→AV} {h:Heap} {ops:Array Oper} {l:List Oper} {σ:St}
theorem nrfl {α:Type} {a b:α} (h:a=b):a=b:=h
open Classical in
noncomputable def gd {α:Type} (c:Prop) (x:Option α):Option α:=if c then x else none
theorem gd_true {α:Type} {c:Prop} {x:Option α} (h:c):gd c x=x:=if_pos h
attribute [go_sem] gd_true
def obind {α β:Type} (o:Option α) (f:α→Option β):Option β:=o.bind f
@[congr] theorem obind_congr {α β:Type} {o o':Option α} {f:α→Option β} (h:o=o'):obind o f=obind o' f:=by rw [h]
@[go_sem] theorem obind_some {α β:Type} {a:α} {f:α→Option β}:obind (some a) f=f a:=rfl
@[go_sem] theorem obind_none {α β:Type} {f:α→Option β}:obind none f=none:=rfl
@[go_sem] theorem evPre_nil:evPre P ops [] σ=some ([],σ):=rfl
@[go_sem] theorem evPre_toList:evPre P ops (List.toArray l).toList σ=evPre P ops l σ:=rfl
@[go_sem] theorem evPre_cons {dst:Option Tmp} {op:Op} {ty:TypeId} {pos:String} {af:Array Edge} :
  evPre P ops (⟨dst,op,ty,pos,af,none⟩ :: l) σ=if dstOk σ.nt dst=true then
   (if isFn op=true then some (⟨dst,op,ty,pos,af,none⟩ :: l,σ) else obind (ev1 P op (opF σ.get) σ.heap) fun r=>evPre P ops l ((σ.setO dst r.1).hp r.2)) else none:=by
 simp only [evPre,gdOk,Bool.and_true,wantedA]
 split
 ·split
  ·rfl
  ·cases ev1 P op (opF σ.get) σ.heap <;> rfl
 ·rfl
@[go_sem] theorem dstOk_some {nt k:Nat}:dstOk nt (some k)=decide (k < nt):=rfl
@[go_sem] theorem dstOk_none {nt:Nat}:dstOk nt none=true:=rfl
attribute [go_sem] gdOk wantedA
@[go_sem] theorem get_mk {nt:Nat} {s:List (Nat × AV)} {hp:Heap} (t:Nat):St.get ⟨nt,s,hp⟩ t=look s t:=rfl
@[go_sem] theorem setO_mk_some {nt:Nat} {s:List (Nat × AV)} {hp:Heap} (t:Nat) (v:AV):St.setO ⟨nt,s,hp⟩ (some t) v=⟨nt,(t,v) :: s,hp⟩:=rfl
@[go_sem] theorem setO_mk_none {nt:Nat} {s:List (Nat × AV)} {hp:Heap} (v:AV):St.setO ⟨nt,s,hp⟩ none v=⟨nt,s,hp⟩:=rfl
@[go_sem] theorem hp_mk {nt:Nat} {s:List (Nat × AV)} {hp h':Heap}:St.hp ⟨nt,s,hp⟩ h'=⟨nt,s,h'⟩:=rfl
@[go_sem] theorem look_cons {k t:Nat} {v:AV} {r:List (Nat × AV)}:look ((k,v) :: r) t=if t=k then v else look r t:=nrfl rfl
@[go_sem] theorem initS_nil {k:Nat}:initS k []=[]:=rfl
@[go_sem] theorem initS_cons {k:Nat} {x:AV} {r:List AV}:initS k (x :: r)=(k,x) :: initS (k + 1) r:=rfl
@[go_sem] theorem opF_tmp {τ:Nat→AV} {t:Nat}:opF τ (.tmp t)=τ t:=rfl
@[go_sem] theorem opF_int {τ:Nat→AV} {k:IntKind} {n:Int}:opF τ (.const (.int k n))=.int k n:=rfl
@[go_sem] theorem opF_bool {τ:Nat→AV} {b:Bool}:opF τ (.const (.bool b))=.bool b:=rfl
@[go_sem] theorem opF_str {τ:Nat→AV} {l:List UInt8}:opF τ (.const (.string ⟨l.toArray⟩))=.str l:=rfl
@[go_sem] theorem opF_nilsl {τ:Nat→AV}:opF τ (.const (.slice none 0 0))=.nilsl:=rfl
@[go_sem] theorem opF_nilfn {τ:Nat→AV}:opF τ (.const .nilFunc)=.nilfn:=rfl
@[go_sem] theorem opF_nilptr {τ:Nat→AV}:opF τ (.const (.pointer none))=.nilptr:=rfl
@[go_sem] theorem opF_nilifc {τ:Nat→AV}:opF τ (.const .nilIface)=.nilifc:=rfl
@[go_sem] theorem opF_func {τ:Nat→AV} {f:FuncId}:opF τ (.func f)=.fn f []:=rfl
@[go_sem] theorem isFn_move {x:Operand}:isFn (.move x)=false:=rfl
@[go_sem] theorem isFn_assign {x:Operand}:isFn (.assign x)=false:=rfl
@[go_sem] theorem isFn_pick {c x y:Operand}:isFn (.pick c x y)=false:=rfl
@[go_sem] theorem isFn_alloc {t:TypeId}:isFn (.alloc t)=false:=rfl
@[go_sem] theorem isFn_box {t:TypeId} {x:Operand}:isFn (.box t x)=false:=rfl
@[go_sem] theorem isFn_build {t:TypeId} {p:Array (Nat × Operand)}:isFn (.build t p)=false:=rfl
@[go_sem] theorem isFn_buildSlice {t:TypeId} {n:Nat} {p:Array (Nat × Operand)}:isFn (.buildSlice t n p)=false:=rfl
@[go_sem] theorem isFn_load {t:TypeId} {x:Operand}:isFn (.load t x)=false:=rfl
@[go_sem] theorem isFn_store {t:TypeId} {x y:Operand}:isFn (.store t x y)=false:=rfl
@[go_sem] theorem isFn_nilCheck {x:Operand}:isFn (.nilCheck x)=false:=rfl
@[go_sem] theorem isFn_binOp {o:BinOp} {t u:TypeId} {x y:Operand}:isFn (.binOp o t x y u)=false:=rfl
@[go_sem] theorem isFn_unOp {o:UnOp} {t:TypeId} {x:Operand}:isFn (.unOp o t x)=false:=rfl
@[go_sem] theorem isFn_convert {s d:TypeId} {x:Operand}:isFn (.convert s d x)=false:=rfl
@[go_sem] theorem isFn_makeInterface {t:TypeId} {x:Operand}:isFn (.makeInterface t x)=false:=rfl
@[go_sem] theorem isFn_makeFunc {f:Fn} {a b:Array Operand}:isFn (.makeFunc f a b)=false:=rfl
@[go_sem] theorem isFn_makeSlice {t:TypeId} {x y:Operand}:isFn (.makeSlice t x y)=false:=rfl
@[go_sem] theorem isFn_slice {t:TypeId} {x:Operand} {a b c:Option Operand}:isFn (.slice t x a b c)=false:=rfl
@[go_sem] theorem isFn_fieldAddr {t:TypeId} {x:Operand} {i:Nat}:isFn (.fieldAddr t x i)=false:=rfl
@[go_sem] theorem isFn_field {t:TypeId} {x:Operand} {i:Nat}:isFn (.field t x i)=false:=rfl
@[go_sem] theorem isFn_indexAddr {t:TypeId} {x y:Operand}:isFn (.indexAddr t x y)=false:=rfl
@[go_sem] theorem isFn_index {t:TypeId} {x y:Operand}:isFn (.index t x y)=false:=rfl
@[go_sem] theorem isFn_extract {x:Operand} {i:Nat}:isFn (.extract x i)=false:=rfl
@[go_sem] theorem isFn_builtin {b:Builtin} {a:Array Operand} {t:Array TypeId}:isFn (.call ⟨.builtin b,a,t⟩)=false:=rfl
@[go_sem] theorem isFn_value {f:Operand} {a:Array Operand} {t:Array TypeId}:isFn (.call ⟨.value f,a,t⟩)=true:=rfl
def qv (h:Heap) (v:Option AV):Option (AV × Heap):=v.map fun v=>(v,h)
@[go_sem] theorem qv_some {v:AV}:qv h (some v)=some (v,h):=nrfl rfl
@[go_sem] theorem qv_none:qv h none=none:=rfl
@[go_sem] theorem ev1_move {x:Operand}:ev1 P (.move x) ρ h=some (ρ x,h):=nrfl rfl
@[go_sem] theorem ev1_assign {x:Operand}:ev1 P (.assign x) ρ h=some (ρ x,h):=nrfl rfl
def pickA (c a b:AV):Option AV:=match c with
 | .bool t=>some (if t=true then a else b)
 | _=>none
@[go_sem] theorem pickA_bool {t:Bool} {a b:AV}:pickA (.bool t) a b=some (if t=true then a else b):=nrfl rfl
@[go_sem] theorem ev1_pick {c x y:Operand}:ev1 P (.pick c x y) ρ h=qv h (pickA (ρ c) (ρ x) (ρ y)):=by
 simp only [ev1,evQ,pickA];cases ρ c <;> rfl
def extrA (x:AV) (i:Nat):Option AV:=match x with
 | .tup vs=>vs[i]?
 | _=>none
@[go_sem] theorem extrA_tup {vs:List AV} {i:Nat}:extrA (.tup vs) i=vs[i]?:=rfl
@[go_sem] theorem ev1_alloc {t:TypeId}:ev1 P (.alloc t) ρ h=allocA P h t:=nrfl rfl
@[go_sem] theorem ev1_box {t:TypeId} {x:Operand}:ev1 P (.box t x) ρ h=boxA P h t (ρ x):=nrfl rfl
@[go_sem] theorem ev1_build {t:TypeId} {p:Array (Nat × Operand)}:ev1 P (.build t p) ρ h=qv h (buildA P t (p.toList.map fun p=>(p.1,ρ p.2))):=nrfl rfl
@[go_sem] theorem ev1_buildSlice {t:TypeId} {n:Nat} {p:Array (Nat × Operand)}:ev1 P (.buildSlice t n p) ρ h=qv h (buildSliceA P t n (p.toList.map fun p=>(p.1,ρ p.2))):=nrfl rfl
@[go_sem] theorem ev1_load {t:TypeId} {x:Operand}:ev1 P (.load t x) ρ h=qv h (loadA P h t (ρ x)):=nrfl rfl
@[go_sem] theorem ev1_store {t:TypeId} {x y:Operand}:ev1 P (.store t x y) ρ h=(storeA P h t (ρ x) (ρ y)).map fun h'=>(.undef,h'):=nrfl rfl
@[go_sem] theorem ev1_nilCheck {x:Operand}:ev1 P (.nilCheck x) ρ h=qv h (nilCheckA (ρ x)):=nrfl rfl
@[go_sem] theorem ev1_binOp {o:BinOp} {t u:TypeId} {x y:Operand}:ev1 P (.binOp o t x y u) ρ h=qv h (binA P o t (ρ x) (ρ y)):=nrfl rfl
@[go_sem] theorem ev1_unOp {o:UnOp} {t:TypeId} {x:Operand}:ev1 P (.unOp o t x) ρ h=qv h (unA o (ρ x)):=nrfl rfl
@[go_sem] theorem ev1_convert {s d:TypeId} {x:Operand}:ev1 P (.convert s d x) ρ h=qv h (convA P h s d (ρ x)):=nrfl rfl
@[go_sem] theorem ev1_makeFunc {f:FuncId} {c:Array Operand}:ev1 P (.makeFunc (.func f) #[] c) ρ h=some (.fn f (c.toList.map ρ),h):=nrfl rfl
@[go_sem] theorem ev1_makeSlice {t:TypeId} {x y:Operand}:ev1 P (.makeSlice t x y) ρ h=makeA P h t (ρ x) (ρ y):=nrfl rfl
@[go_sem] theorem ev1_slice {t:TypeId} {x:Operand} {lo hi:Option Operand}:ev1 P (.slice t x lo hi none) ρ h=qv h (sliceA P h t (ρ x) (lo.map ρ) (hi.map ρ)):=nrfl rfl
@[go_sem] theorem ev1_fieldAddr {t:TypeId} {x:Operand} {i:Nat}:ev1 P (.fieldAddr t x i) ρ h=qv h (fieldAddrA P t (ρ x) i):=nrfl rfl
@[go_sem] theorem ev1_indexAddr {t:TypeId} {x y:Operand}:ev1 P (.indexAddr t x y) ρ h=qv h (indexAddrA P t (ρ x) (ρ y)):=nrfl rfl
@[go_sem] theorem ev1_index {t:TypeId} {x y:Operand}:ev1 P (.index t x y) ρ h=qv h (indexA P t (ρ x) (ρ y)):=nrfl rfl
@[go_sem] theorem ev1_extract {x:Operand} {i:Nat}:ev1 P (.extract x i) ρ h=qv h (extrA (ρ x) i):=by
 simp only [ev1,evQ,extrA];cases ρ x <;> rfl
@[go_sem] theorem ev1_len {x:Operand} {t:TypeId}:ev1 P (.call ⟨.builtin .len,#[x],#[t]⟩) ρ h=qv h (lenA P t (ρ x)):=nrfl rfl
@[go_sem] theorem ev1_max {x y:Operand} {t:Array TypeId}:ev1 P (.call ⟨.builtin .max,#[x,y],t⟩) ρ h=qv h (minmaxA true (ρ x) (ρ y)):=nrfl rfl
@[go_sem] theorem ev1_append {x y:Operand} {t:TypeId}:ev1 P (.call ⟨.builtin .append,#[x,y],#[t,t]⟩) ρ h=appendA P h t (ρ x) (ρ y):=by
 simp [ev1,evW]
@[go_sem] theorem ev1_copy {x y:Operand} {t:TypeId}:ev1 P (.call ⟨.builtin .copy,#[x,y],#[t,t]⟩) ρ h=copyA P h t (ρ x) (ρ y):=by
 simp [ev1,evW]
@[go_sem] theorem binA_int {o:BinOp} {t:TypeId} {k:IntKind} {a b:Int}:binA P o t (.int k a) (.int k b)=if o=.shl ∨ o=.shr then shI o k a b else binI o k a b:=by simp [binA]
@[go_sem] theorem binA_str {o:BinOp} {t:TypeId} {a b:List UInt8}:binA P o t (.str a) (.str b)=binS o a b:=rfl
@[go_sem] theorem binA_bool {o:BinOp} {t:TypeId} {a b:Bool}:binA P o t (.bool a) (.bool b)=match tk P t with | .bool=>binB o a b | _=>none:=rfl
def andI (k:IntKind) (a b:Int):Int:=k.wrap (BitVec.ofInt k.bits a &&& BitVec.ofInt k.bits b).toNat
@[go_sem] theorem binI_and {k:IntKind} {a b:Int}:binI .and k a b=some (.int k (andI k a b)):=rfl
@[go_sem] theorem binI_add {k:IntKind} {a b:Int}:binI .add k a b=some (.int k (k.wrap (a + b))):=rfl
@[go_sem] theorem binI_sub {k:IntKind} {a b:Int}:binI .sub k a b=some (.int k (k.wrap (a - b))):=rfl
@[go_sem] theorem binI_mul {k:IntKind} {a b:Int}:binI .mul k a b=some (.int k (k.wrap (a * b))):=rfl
@[go_sem] theorem binI_quo {k:IntKind} {a b:Int}:binI .quo k a b=gd (b ≠ 0) (some (.int k (k.wrap (a.tdiv b)))):=by simp [binI,gd]
@[go_sem] theorem binI_rem {k:IntKind} {a b:Int}:binI .rem k a b=gd (b ≠ 0) (some (.int k (a.tmod b))):=by simp [binI,gd]
@[go_sem] theorem binI_eql {k:IntKind} {a b:Int}:binI .eql k a b=some (.bool (decide (a=b))):=rfl
@[go_sem] theorem binI_neq {k:IntKind} {a b:Int}:binI .neq k a b=some (.bool (decide (a ≠ b))):=by
 show some (AV.bool (a != b))=_
 rw [show (a != b)=decide (a ≠ b) from Bool.eq_iff_iff.2 (by simp)]
@[go_sem] theorem binI_lss {k:IntKind} {a b:Int}:binI .lss k a b=some (.bool (decide (a < b))):=rfl
@[go_sem] theorem binI_leq {k:IntKind} {a b:Int}:binI .leq k a b=some (.bool (decide (a≤b))):=rfl
@[go_sem] theorem binI_gtr {k:IntKind} {a b:Int}:binI .gtr k a b=some (.bool (decide (a > b))):=rfl
@[go_sem] theorem binI_geq {k:IntKind} {a b:Int}:binI .geq k a b=some (.bool (decide (a ≥ b))):=rfl
@[go_sem] theorem binS_eql {a b:List UInt8}:binS .eql a b=some (.bool (decide (a=b))):=by
 show some (AV.bool (a == b))=_
 rw [show (a == b)=decide (a=b) from Bool.eq_iff_iff.2 (by simp)]
@[go_sem] theorem binS_neq {a b:List UInt8}:binS .neq a b=some (.bool (decide (a ≠ b))):=by
 show some (AV.bool (!(a == b)))=_
 rw [show (!(a == b))=decide (a ≠ b) from Bool.eq_iff_iff.2 (by simp)]
@[go_sem] theorem binS_add {a b:List UInt8}:binS .add a b=gd (a.length + b.length≤9223372036854775807) (some (.str (a ++ b))):=by simp [binS,gd]
@[go_sem] theorem binB_eql {a b:Bool}:binB .eql a b=some (.bool (a == b)):=rfl
@[go_sem] theorem binB_neq {a b:Bool}:binB .neq a b=some (.bool (!(a == b))):=rfl
@[go_sem] theorem unA_not {b:Bool}:unA .not (.bool b)=some (.bool (!b)):=rfl
@[go_sem] theorem unA_neg {k:IntKind} {n:Int}:unA .neg (.int k n)=some (.int k (k.wrap (0 - n))):=rfl
@[go_sem] theorem nilCheckA_ptr {l ver es i f:Nat}:nilCheckA (.ptr l ver es i f)=some (.ptr l ver es i f):=rfl
@[go_sem] theorem nilCheckA_iptr {x:AV} {f:Nat}:nilCheckA (.iptr x f)=some (.iptr x f):=rfl
@[go_sem] theorem nilCheckA_fn {f:FuncId} {c:List AV}:nilCheckA (.fn f c)=some (.fn f c):=rfl
attribute [go_sem] resL packA AV.cells AV.c0
end
end Go.Gh
