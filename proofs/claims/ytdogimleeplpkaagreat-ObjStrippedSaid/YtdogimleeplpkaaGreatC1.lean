/- The evaluator, its soundness and the walks: part 1. -/
import GoSem.Step
import Derived.CallsIn
set_option linter.unusedSectionVars false
set_option linter.unusedSimpArgs false
set_option linter.unusedVariables false
set_option maxRecDepth 100000
set_option maxRecDepth 1000000
noncomputable section
/- The abstract evaluator: abstract values, contents, heaps, operations, code. -/
namespace Go.Ev
def nth {α : Type} (l : List α) : Nat → Option α := List.rec (fun _ => none) (fun v _ ih i => Nat.rec (some v) (fun j _ => ih j) i) l
def nthD {α : Type} (d : α) (l : List α) : Nat → α := List.rec (fun _ => d) (fun v _ ih i => Nat.rec v (fun j _ => ih j) i) l
def setL {α : Type} (l : List α) (i : Nat) (x : α) : List α := List.rec (fun _ => []) (fun v t ih i => Nat.rec (x :: t) (fun j _ => v :: ih j) i) l i
mutual
inductive AV where
  | unk
  | val (v : Value)
  | agg (l : List AV)
  | ro (c : Con) (cap : Option Nat)
  | rptr (c : Con) (row col : Nat)
  | own (id off len : Nat) (cap : Option Nat) (wd : Nat)
  | ptr (id row col : Nat)
  | clo (fn : Fn) (first captured : List AV)
  | tup (l : List AV)
  | ifc (t : TypeId) (v : AV)
  | mp (id : Nat)
  | rmp (m : MC)
  | pan (v : Value)
inductive Con where
  | ints (k : IntKind) (l : List Int)
  | rows (pure : Bool) (w : Nat) (l : List (List AV))
  | tab (w n : Nat) (row : Nat → List AV)
inductive MC where
  | ents (l : List ME) (clock : Nat)
  | mtab (n : Nat) (f : Nat → ME) (clock : Nat)
inductive ME where
  | mk (key : Value) (val : AV) (born : Nat)
end
instance : Inhabited AV := ⟨.unk⟩
def Con.wd : Con → Nat
  | .ints _ _ => 1
  | .rows _ w _ => w
  | .tab w _ _ => w
def Con.len : Con → Nat
  | .ints _ l => l.length
  | .rows _ _ l => l.length
  | .tab _ n _ => n
def Con.row : Con → Nat → List AV
  | .ints k l, i => [.val (.int k (l.getD i 0))]
  | .rows _ _ l, i => l.getD i []
  | .tab _ _ f, i => f i
def Con.pureF : Con → Bool
  | .ints _ _ => true
  | .rows p _ _ => p
  | .tab _ _ _ => true
def Con.sub : Con → Nat → Nat → Con
  | .ints k x, l, n => .ints k ((x.drop l).take n)
  | .rows p w x, l, n => .rows p w ((x.drop l).take n)
  | .tab w _ f, l, n => .tab w n (fun i => f (l + i))
def ME.key : ME → Value
  | .mk k _ _ => k
def ME.val : ME → AV
  | .mk _ v _ => v
def ME.born : ME → Nat
  | .mk _ _ b => b
def ME.z : ME := .mk (.tuple #[]) .unk 0
def MC.len : MC → Nat
  | .ents l _ => l.length
  | .mtab n _ _ => n
def MC.ent : MC → Nat → ME
  | .ents l _, i => nthD ME.z l i
  | .mtab _ f _, i => f i
def MC.clock : MC → Nat
  | .ents _ c => c
  | .mtab _ _ c => c
def catTab (w n : Nat) (f : Nat → List AV) (p : Bool) (w' : Nat) (m : Nat) (g : Nat → List AV) : Option Con :=
  bif Nat.beq w w' && p then some (.tab w (n + m) (fun i => bif Nat.blt i n then f i else g (i - n))) else none
def intRows (k : IntKind) (l : List Int) : List (List AV) := l.map fun n => [.val (.int k n)]
def intsCat (k : IntKind) (x : List Int) : Con → Option Con
  | .rows p w y => bif Nat.beq 1 w then some (.rows p 1 (intRows k x ++ y)) else none
  | .tab w n f => catTab 1 x.length (fun i => [.val (.int k (x.getD i 0))]) true w n f
  | .ints _ _ => none
def catInts (k : IntKind) (y : List Int) : Con → Option Con
  | .rows p w x => bif Nat.beq w 1 then some (.rows p w (x ++ intRows k y)) else none
  | .tab w n f => catTab w n f true 1 y.length (fun i => [.val (.int k (y.getD i 0))])
  | .ints _ _ => none
def catOther : Con → Con → Option Con
  | .rows p w x, .rows p' w' y => bif Nat.beq w w' then some (.rows (p && p') w (x ++ y)) else none
  | .tab w n f, .rows p w' y => catTab w n f p w' y.length (fun i => y.getD i [])
  | .rows p w y, .tab w' n f => catTab w y.length (fun i => y.getD i []) p w' n f
  | .tab w n f, .tab w' m g => catTab w n f true w' m g
  | .ints k x, b => intsCat k x b
  | a, .ints k y => catInts k y a
def nilCon : Con → Bool
  | .rows _ _ [] => true
  | .ints _ [] => true
  | _ => false
def catNil (a b : Con) : Option Con :=
  bif nilCon a then (bif Nat.beq a.wd b.wd then some b else none)
  else bif nilCon b then (bif Nat.beq a.wd b.wd then some a else none)
  else catOther a b
def Con.cat (a b : Con) : Option Con :=
  match a, b with
  | .ints k x, .ints k' y => bif decide (k = k') then some (.ints k (x ++ y)) else none
  | .rows p w x, .rows p' w' y => catOther (.rows p w x) (.rows p' w' y)
  | .rows p w (r :: x), .ints k y => catInts k y (.rows p w (r :: x))
  | a, b => catNil a b
def notYield : Fn → Bool
  | .yield _ => false
  | _ => true
def foldL {α β : Type} (z : β) (f : α → List α → β → β) (l : List α) : β := List.rec z f l
def pure0 : AV → Bool
  | .unk => true
  | .val _ => true
  | .ro _ _ => true
  | .rptr _ _ _ => true
  | .rmp _ => true
  | _ => false
def pures0 (l : List AV) : Bool := foldL true (fun v _ ih => pure0 v && ih) l
def AV.pure : AV → Bool
  | .unk => true
  | .val _ => true
  | .ro _ _ => true
  | .rptr _ _ _ => true
  | .rmp _ => true
  | .clo g f c => notYield g && (pures0 f && pures0 c)
  | .ifc _ v => pure0 v
  | _ => false
def pures (l : List AV) : Bool := foldL true (fun v _ ih => v.pure && ih) l
def refs0 : AV → List Nat
  | .own id _ _ _ _ => [id]
  | .ptr id _ _ => [id]
  | .mp id => [id]
  | _ => []
def refss0 (l : List AV) : List Nat := foldL [] (fun v _ ih => refs0 v ++ ih) l
def refs1 : AV → List Nat
  | .agg l => refss0 l
  | .own id _ _ _ _ => [id]
  | .ptr id _ _ => [id]
  | .mp id => [id]
  | .clo _ f c => refss0 f ++ refss0 c
  | .ifc _ v => refs0 v
  | _ => []
def refss1 (l : List AV) : List Nat := foldL [] (fun v _ ih => refs1 v ++ ih) l
def yieldRef : Fn → List Nat
  | .yield l => [l]
  | _ => []
def AV.refs : AV → List Nat
  | .agg l => refss1 l
  | .own id _ _ _ _ => [id]
  | .ptr id _ _ => [id]
  | .mp id => [id]
  | .clo g f c => yieldRef g ++ (refss1 f ++ refss1 c)
  | .tup l => refss1 l
  | .ifc _ v => refs1 v
  | _ => []
def refss (l : List AV) : List Nat := foldL [] (fun v _ ih => v.refs ++ ih) l
def refsRows (l : List (List AV)) : List Nat := foldL [] (fun r _ ih => refss r ++ ih) l
def Con.refs : Con → List Nat
  | .rows false _ l => refsRows l
  | _ => []
def MC.refs : MC → List Nat
  | .ents l _ => foldL [] (fun e _ ih => e.val.refs ++ ih) l
  | _ => []
inductive Blk where
  | cells (c : Con)
  | map (p : Bool) (m : MC)
  | iter (pos : Nat) (l : List Int)
  | loop (st : LoopState) (pend : Option Code) (t : List AV) (ps : List Tmp) (assign body : Code) (df : Nat)
  | defd
def Blk.refs : Blk → List Nat
  | .cells c => c.refs
  | .map true _ => []
  | .map false m => m.refs
  | .iter _ _ => []
  | .loop _ _ t _ _ _ df => df :: refss t
  | .defd => []
structure Ent where
  id : Nat
  ver : Nat
  blk : Blk
structure Heap where
  next : Nat
  es : List Ent
def findE (l : List Ent) (id : Nat) : Option Ent := foldL none (fun e _ ih => bif Nat.beq e.id id then some e else ih) l
def putE (l : List Ent) (id : Nat) (b : Blk) : List Ent := foldL [] (fun e es ih => bif Nat.beq e.id id then ⟨id, e.ver + 1, b⟩ :: es else e :: ih) l
def delE (l : List Ent) (id : Nat) : List Ent := foldL [] (fun e es ih => bif Nat.beq e.id id then es else e :: ih) l
def memN (n : Nat) (l : List Nat) : Bool := foldL false (fun m _ ih => bif Nat.beq n m then true else ih) l
def pickE (l : List Ent) (m : List Nat) : List Ent := foldL [] (fun e _ ih => bif memN e.id m then e :: ih else ih) l
def dropE (l : List Ent) (m : List Nat) : List Ent := foldL [] (fun e _ ih => bif memN e.id m then ih else e :: ih) l
def reachStep (es : List Ent) (ih : List Nat → List Nat → List Nat) (todo seen : List Nat) : List Nat :=
  match todo with
  | [] => seen
  | id :: todo => bif memN id seen then ih todo seen
    else match findE es id with
      | some e => ih (e.blk.refs ++ todo) (id :: seen)
      | none => ih todo seen
def reach (n : Nat) (es : List Ent) : List Nat → List Nat → List Nat :=
  Nat.rec (fun _ seen => seen) (fun _ ih => reachStep es ih) n
def conB : Blk → Option Con
  | .cells c => some c
  | _ => none
def Heap.con (h : Heap) (id : Nat) : Option Con :=
  match findE h.es id with
  | some e => conB e.blk
  | none => none
def Heap.put (h : Heap) (id : Nat) (b : Blk) : Heap := ⟨h.next, putE h.es id b⟩
def Heap.add (h : Heap) (b : Blk) : Heap := ⟨h.next + 1, ⟨h.next, 0, b⟩ :: h.es⟩
def Heap.del (h : Heap) (id : Nat) : Heap := ⟨h.next, delE h.es id⟩
def Heap.turn (h : Heap) (id : Nat) (b : Blk) : Heap := (h.del id).add b
section force
variable {r : Type}
def fN (s : Bool) (n : Nat) (k : Nat → r) : r := bif s then (match n with | 0 => k 0 | m + 1 => k (m + 1)) else k n
def fNat (n : Nat) (k : Nat → r) : r := match n with | 0 => k 0 | m + 1 => k (m + 1)
def fInt (n : Int) (k : Int → r) : r := match n with | .ofNat m => fNat m fun m => k (.ofNat m) | .negSucc m => fNat m fun m => k (.negSucc m)
def fBool (b : Bool) (k : Bool → r) : r := match b with | true => k true | false => k false
def fKind (i : IntKind) (k : IntKind → r) : r := match i with | .i8 => k .i8 | .i16 => k .i16 | .i32 => k .i32 | .i64 => k .i64 | .u8 => k .u8 | .u16 => k .u16 | .u32 => k .u32 | .u64 => k .u64
def fVal (v : Value) (k : Value → r) : r := match v with
  | .int i n => fKind i fun i => fInt n fun n => k (.int i n)
  | .bool b => fBool b fun b => k (.bool b)
  | v => k v
def fInts (l : List Int) : (List Int → r) → r := foldL (fun k => k []) (fun n _ ih k => fInt n fun n => ih fun l => k (n :: l)) l
def fON (o : Option Nat) (k : Option Nat → r) : r := match o with | none => k none | some n => fNat n fun n => k (some n)
def fSp {α : Type} (l : List α) : (List α → r) → r := foldL (fun k => k []) (fun x _ ih k => ih fun l => k (x :: l)) l
def fA0 (v : AV) (k : AV → r) : r := match v with
  | .val v => fVal v fun v => k (.val v)
  | .own id off len cap wd => fNat id fun id => fNat off fun off => fNat len fun len => fON cap fun cap => fNat wd fun wd => k (.own id off len cap wd)
  | .ptr id i j => fNat id fun id => fNat i fun i => fNat j fun j => k (.ptr id i j)
  | .mp id => fNat id fun id => k (.mp id)
  | v => k v
def fAs (l : List AV) : (List AV → r) → r := foldL (fun k => k []) (fun v _ ih k => fA0 v fun v => ih fun l => k (v :: l)) l
def fA1 (v : AV) (k : AV → r) : r := match v with
  | .unk => k .unk
  | .val v => fVal v fun v => k (.val v)
  | .agg l => fAs l fun l => k (.agg l)
  | .ro c cap => fON cap fun cap => k (.ro c cap)
  | .rptr c i j => fNat i fun i => fNat j fun j => k (.rptr c i j)
  | .own id off len cap wd => fNat id fun id => fNat off fun off => fNat len fun len => fON cap fun cap => fNat wd fun wd => k (.own id off len cap wd)
  | .ptr id i j => fNat id fun id => fNat i fun i => fNat j fun j => k (.ptr id i j)
  | .clo f a b => fAs a fun a => fAs b fun b => k (.clo f a b)
  | .tup l => k (.tup l)
  | .ifc t v => fA0 v fun v => k (.ifc t v)
  | .mp id => fNat id fun id => k (.mp id)
  | .rmp m => k (.rmp m)
  | .pan v => k (.pan v)
def fA1s (l : List AV) : (List AV → r) → r := foldL (fun k => k []) (fun v _ ih k => fA1 v fun v => ih fun l => k (v :: l)) l
def fAV (v : AV) (k : AV → r) : r := match v with
  | .tup l => fA1s l fun l => k (.tup l)
  | v => fA1 v k
def fRows (l : List (List AV)) : (List (List AV) → r) → r := foldL (fun k => k []) (fun x _ ih k => fAs x fun x => ih fun l => k (x :: l)) l
def fCon (c : Con) (k : Con → r) : r := match c with
  | .ints i l => fInts l fun l => k (.ints i l)
  | .rows p w l => fBool p fun p => fNat w fun w => fRows l fun l => k (.rows p w l)
  | .tab w n f => k (.tab w n f)
def bVal (v : Value) (k : Value → r) : r := match v with
  | .bool b => fBool b fun b => k (.bool b)
  | v => k v
def bAV (v : AV) (k : AV → r) : r := match v with
  | .val v => bVal v fun v => k (.val v)
  | v => k v
def sAV (s : Bool) (v : AV) (k : AV → r) : r := bif s then fAV v k else bAV v k
def sCon (s : Bool) (v : Con) (k : Con → r) : r := bif s then fCon v k else k v
def sSp {α : Type} (s : Bool) (v : List α) (k : List α → r) : r := bif s then fSp v k else k v
def fEnt (e : Ent) (k : Ent → r) : r := match e with | ⟨i, v, b⟩ => fNat i fun i => fNat v fun v => k ⟨i, v, b⟩
def fEnts (l : List Ent) : (List Ent → r) → r := foldL (fun k => k []) (fun x _ ih k => fEnt x fun x => ih fun l => k (x :: l)) l
def sHeap (s : Bool) (h : Heap) (k : Heap → r) : r := bif s then (match h with | ⟨n, es⟩ => fNat n fun n => fEnts es fun es => k ⟨n, es⟩) else k h
end force
structure TI where
  desc : TypeDesc
  zero : Value
  size : Nat
  bytes : Nat
def TI.agg (i : TI) : Bool := match i.desc with | .struct _ => true | .array _ _ => true | _ => false
structure Tri (α : Type) where
  rows : List (List (Option α))
def joinO {α : Type} (o : Option (Option α)) : Option α := match o with | some x => x | none => none
def Tri.get {α : Type} (t : Tri α) (k : Nat) : Option α := joinO (nth (nthD [] t.rows (Nat.div k 16)) (Nat.mod k 16))
def AFun := (ρ : Type) → List AV → Heap → (AV → Heap → Option ρ) → Option ρ
structure Env where
  strict : Bool
  ty : Tri TI
  fn : Tri Func
  eq : List TypeId
  flat : List TypeId
  sum : Nat → Option AFun
  keep : Nat → Nat → Option (List Nat)
  rounds : Nat
def ofVal : Value → AV
  | .agg cs => .agg (cs.toList.map .val)
  | v => .val v
def AV.cells : AV → List AV
  | .agg l => l
  | v => [v]
def undefA : AV := .val undef
def getT (l : List AV) (i : Nat) : AV := nthD .unk l i
def ev (t : List AV) : Operand → AV
  | .tmp i => getT t i
  | .const v => ofVal v
  | .func f => .clo (.func f) [] []
  | .global _ => .unk
def evs (t : List AV) (l : List Operand) : List AV := foldL [] (fun o _ ih => ev t o :: ih) l
def guardB {ρ : Type} (b : Bool) (k : Option ρ) : Option ρ := bif b then k else none
def pureOf {α : Type} : Sem α → Option α
  | .pure v => some v
  | _ => none
def partAgg (n : Nat) (r : List AV) : Option AV := bif Nat.beq r.length n then some (.agg r) else none
def part (i : TI) (l : List AV) (col : Nat) : Option AV :=
  bif i.agg then partAgg i.size ((l.drop col).take i.size) else l[col]?
def splice {α : Type} (l : List α) (col : Nat) (x : List α) : List α := l.take col ++ x ++ l.drop (col + x.length)
def AV.int? : AV → Option Int
  | .val (.int _ n) => some n
  | _ => none
def zeros (i : TI) (n : Nat) : Con :=
  match i.zero with
  | .int k z => .ints k (List.replicate n z)
  | z => .rows true i.size (List.replicate n (ofVal z).cells)
def emptyC (i : TI) : Con := zeros i 0
def asInts (k : IntKind) : List (List AV) → Option (List Int)
  | [] => some []
  | [.val (.int k' x)] :: l => bif decide (k = k') then (asInts k l).map (x :: ·) else none
  | _ => none
def allPure : List (List AV) → Bool
  | [] => true
  | r :: l => pures r && allPure l
def conOf (i : TI) (l : List (List AV)) : Con :=
  match i.zero with
  | .int k _ => (match asInts k l with | some x => .ints k x | none => .rows (allPure l) i.size l)
  | _ => .rows (allPure l) i.size l
def sliceCon (h : Heap) (e : TI) : AV → Option Con
  | .ro c _ => some c
  | .own id off len _ _ => (match h.con id with
    | some c => bif Nat.ble (off + len) c.len then some (c.sub off len) else none
    | none => none)
  | .val (.slice none 0 0) => some (emptyC e)
  | _ => none
def onSlice {ρ : Type} (h : Heap) (e : TI) (s : AV) (F : Con → Option ρ) : Option ρ :=
  match s with
  | .own id off len _ _ => (match h.con id with
    | some c => guardB (Nat.ble (off + len) c.len) (F (c.sub off len))
    | none => none)
  | s => (match sliceCon h e s with | some c => F c | none => none)
def lenOfA : AV → Option Nat
  | .ro c _ => some c.len
  | .own _ _ len _ _ => some len
  | .val (.slice none 0 0) => some 0
  | _ => none
def numsOf (s : ByteArray) : List Int := s.data.toList.map fun b => (b.toNat : Int)
def strOf (l : List Int) : ByteArray := ⟨(l.map fun n => UInt8.ofNat n.toNat).toArray⟩
def most : Nat := 1099511627776
def splitNat {ρ : Type} : Nat → Nat → Nat → (Nat → Option ρ) → Option ρ
  | 0, _, _, _ => none
  | n + 1, i, j, k => bif Nat.beq i j then k j else splitNat n i (j + 1) k
abbrev KP (ρ : Type) := AV → Heap → List Nat → List Nat → Option ρ
def cellEq : Value → AV → AV → Option Bool
  | .int k _, .val (.int k1 a), .val (.int k2 b) => bif decide (k1 = k) && decide (k2 = k) then some (a == b) else none
  | .bool _, .val (.bool a), .val (.bool b) => some (a == b)
  | .string _, .val (.string a), .val (.string b) => some (a == b)
  | _, _, _ => none
def cellsEq : List Value → List AV → List AV → Option Bool
  | [], [], [] => some true
  | z :: zs, a :: x, b :: y => (match cellEq z a b, cellsEq zs x y with | some p, some q => some (p && q) | _, _ => none)
  | _, _, _ => none
def eqSl : AV → Option Bool
  | .val (.slice none _ _) => some true
  | .val (.slice (some _) _ _) => some false
  | .ro c _ => bif Nat.blt 0 c.len then some false else none
  | .own _ _ n _ _ => bif Nat.blt 0 n then some false else none
  | _ => none
def eqPt : AV → Option Bool
  | .val (.pointer none) => some true
  | .ptr .. => some false
  | .rptr .. => some false
  | _ => none
def eqFn : AV → Option Bool
  | .val .nilFunc => some true
  | .clo .. => some false
  | _ => none
def eqMp : AV → Option Bool
  | .val (.map none) => some true
  | .mp _ => some false
  | .rmp _ => some false
  | _ => none
def eqIf (lit : Bool) : AV → Option Bool
  | .val .nilIface => bif lit then some true else none
  | .val (.iface ..) => some false
  | .ifc .. => some false
  | _ => none
def eqBl (b : Bool) : AV → Option Bool
  | .val (.bool a) => some (a == b)
  | _ => none
def eqNil (d : TypeDesc) (lit : Bool) (a : AV) (v : Value) : Option Bool :=
  match d with
  | .bool => (match v with | .bool b => eqBl b a | _ => none)
  | .slice _ => (match v with | .slice none _ _ => eqSl a | _ => none)
  | .pointer _ => (match v with | .pointer none => eqPt a | _ => none)
  | .func _ _ _ => (match v with | .nilFunc => eqFn a | _ => none)
  | .map _ _ => (match v with | .map none => eqMp a | _ => none)
  | .interface _ => (match v with | .nilIface => eqIf lit a | _ => none)
  | _ => none
def eqA (env : Env) (t : TypeId) (lit : Bool) (a : AV) : AV → Option Bool
  | .val v => (match env.ty.get t with | some i => eqNil i.desc lit a v | none => none)
  | .agg y => (match a with
    | .agg x => (match env.ty.get t with | some i => bif memN t env.eq then cellsEq i.zero.cells.toList x y else none | none => none)
    | _ => none)
  | _ => none
def isLit : Operand → Bool
  | .const _ => true
  | _ => false
def optV {ρ : Type} (o : Option Value) (K : AV → Option ρ) : Option ρ := match o with | some v => K (.val v) | none => none
def optB {ρ : Type} (o : Option Bool) (K : AV → Option ρ) : Option ρ := match o with | some v => K (.val (.bool v)) | none => none
def optNB {ρ : Type} (o : Option Bool) (K : AV → Option ρ) : Option ρ := match o with | some v => K (.val (.bool !v)) | none => none
def binSame {ρ : Type} (op : BinOp) (k : IntKind) (x y : Int) (K : AV → Option ρ) : Option ρ :=
  match op with
  | .add => K (.val (.int k (k.wrap (x + y))))
  | .sub => K (.val (.int k (k.wrap (x - y))))
  | .mul => K (.val (.int k (k.wrap (x * y))))
  | .quo => guardB (y != 0) (K (.val (.int k (k.wrap (x.tdiv y)))))
  | .rem => guardB (y != 0) (K (.val (.int k (x.tmod y))))
  | .eql => K (.val (.bool (x == y)))
  | .neq => K (.val (.bool (x != y)))
  | .lss => K (.val (.bool (x < y)))
  | .leq => K (.val (.bool (x ≤ y)))
  | .gtr => K (.val (.bool (x > y)))
  | .geq => K (.val (.bool (x ≥ y)))
  | .shl => none
  | .shr => none
  | op => optV (pureOf (Op.intBits op k x y)) K
def binInt {ρ : Type} (op : BinOp) (k : IntKind) (x : Int) (k' : IntKind) (y : Int) (K : AV → Option ρ) : Option ρ :=
  match op with
  | .shl => guardB (decide (0 ≤ y)) (K (.val (.int k (k.wrap (x * 2 ^ (min y.toNat k.bits))))))
  | .shr => guardB (decide (0 ≤ y)) (K (.val (.int k (x.fdiv (2 ^ (min y.toNat k.bits))))))
  | op => guardB (decide (k = k')) (binSame op k x y K)
def binStr {ρ : Type} (op : BinOp) (x y : ByteArray) (K : AV → Option ρ) : Option ρ :=
  match op with
  | .add => guardB (Nat.ble (x.size + y.size) most) (K (.val (.string (x ++ y))))
  | op => optV (pureOf (Op.stringOp op x y)) K
def binEq {ρ : Type} (env : Env) (op : BinOp) (t : TypeId) (lit : Bool) (a b : AV) (K : AV → Option ρ) : Option ρ :=
  match op with
  | .eql => optB (eqA env t lit a b) K
  | .neq => optNB (eqA env t lit a b) K
  | _ => none
def binA {ρ : Type} (env : Env) (op : BinOp) (t : TypeId) (lit : Bool) (a b : AV) (K : AV → Option ρ) : Option ρ :=
  match a with
  | .val (.int k x) => (match b with | .val (.int k' y) => binInt op k x k' y K | _ => none)
  | .val (.string x) => (match b with | .val (.string y) => binStr op x y K | _ => none)
  | a => binEq env op t lit a b K
def lowB {ρ : Type} (lo : Option AV) (h : Nat) (m : Option Nat) (K : Nat → Nat → Option Nat → Option ρ) : Option ρ :=
  match lo with
  | none => K 0 h m
  | some v => match v.int? with
    | some l => guardB (decide (0 ≤ l) && decide (l ≤ (h : Int))) (K l.toNat h m)
    | none => none
def highB {ρ : Type} (len : Nat) (lo hi : Option AV) (top : Nat) (m : Option Nat) (K : Nat → Nat → Option Nat → Option ρ) : Option ρ :=
  match hi with
  | none => lowB lo len m K
  | some v => match v.int? with
    | some n => guardB (decide (0 ≤ n) && decide (n ≤ (top : Int))) (lowB lo n.toNat m K)
    | none => none
def boundsA {ρ : Type} (len : Nat) (lo hi mx : Option AV) (K : Nat → Nat → Option Nat → Option ρ) : Option ρ :=
  match mx with
  | none => highB len lo hi len none K
  | some v => match v.int?, hi with
    | some m, some _ => guardB (decide (0 ≤ m) && decide (m ≤ (len : Int))) (highB len lo hi m.toNat (some m.toNat) K)
    | _, _ => none
def subCap (cap m : Option Nat) (l : Nat) : Option Nat :=
  match m with
  | some m => some (m - l)
  | none => cap.map (· - l)
def sliceSl {ρ : Type} (sz : Nat) (x : AV) (lo hi mx : Option AV) (K : AV → Option ρ) : Option ρ :=
  match x with
  | .ro c cap => guardB (Nat.beq c.wd sz) (boundsA c.len lo hi mx fun l h m => K (.ro (c.sub l (h - l)) (subCap cap m l)))
  | .own id off len cap wd => guardB (Nat.beq wd sz) (boundsA len lo hi mx fun l h m => K (.own id (off + l) (h - l) (subCap cap m l) wd))
  | .val (.slice none 0 0) => boundsA 0 lo hi mx fun _ _ _ => K (.val (.slice none 0 0))
  | _ => none
def sliceStr {ρ : Type} (x : AV) (lo hi mx : Option AV) (K : AV → Option ρ) : Option ρ :=
  match x, mx with
  | .val (.string s), none => boundsA s.size lo hi none fun l h _ => K (.val (.string (s.extract l h)))
  | _, _ => none
def sliceA {ρ : Type} (env : Env) (t : TypeId) (x : AV) (lo hi mx : Option AV) (K : AV → Option ρ) : Option ρ :=
  match env.ty.get t with
  | some i => (match i.desc with
    | .slice e => (match env.ty.get e with | some ti => sliceSl ti.size x lo hi mx K | none => none)
    | .string => sliceStr x lo hi mx K
    | _ => none)
  | none => none
def ptrArr {ρ : Type} (env : Env) (t : TypeId) (F : Nat → Option ρ) : Option ρ :=
  match env.ty.get t with
  | some i => (match i.desc with
    | .array n e => (match env.ty.get e with | some ei => guardB (Nat.beq ei.size 1) (F n) | none => none)
    | _ => none)
  | none => none
def slicePtr {ρ : Type} (env : Env) (t : TypeId) (x : AV) (lo hi mx : Option AV) (h : Heap) (K : KP ρ) : Option ρ :=
  match x with
  | .ptr id r c => ptrArr env t fun n => (match h.con id with
    | some con => guardB (Nat.beq con.wd 1 && Nat.ble (r + c + n) con.len) (boundsA n lo hi mx fun l u m => K (.own id (r + c + l) (u - l) (some (m.getD n - l)) 1) h [id] [])
    | none => none)
  | .rptr con r c => ptrArr env t fun n => guardB (Nat.beq con.wd 1 && Nat.ble (r + c + n) con.len) (boundsA n lo hi mx fun l u m => K (.ro (con.sub (r + c + l) (u - l)) (some (m.getD n - l))) h [] [])
  | _ => sliceA env t x lo hi mx fun v => K v h [] []
def addK {ρ : Type} (env : Env) (h : Heap) (c : Con) (K : Heap → Option ρ) : Option ρ := sCon env.strict c fun c => sHeap env.strict (h.add (.cells c)) K
def putK {ρ : Type} (env : Env) (h : Heap) (id : Nat) (c : Con) (K : Heap → Option ρ) : Option ρ := sCon env.strict c fun c => sHeap env.strict (h.put id (.cells c)) K
def turnK {ρ : Type} (env : Env) (h : Heap) (id : Nat) (c : Con) (K : Heap → Option ρ) : Option ρ := sCon env.strict c fun c => sHeap env.strict (h.turn id (.cells c)) K
def rdOf : AV → List Nat
  | .own id .. => [id]
  | _ => []
def isByte (i : TI) : Bool := match i.desc with | .int .u8 => Nat.beq i.size 1 | _ => false
def u8s : Con → Option (List Int)
  | .ints .u8 l => some l
  | _ => none
def bytesStr {ρ : Type} (i : TI) (x : AV) (h : Heap) (K : KP ρ) : Option ρ :=
  onSlice h i x fun c => match u8s c with
    | some l => K (.val (.string (strOf l))) h (rdOf x) []
    | none => none
def toBytes {ρ : Type} (env : Env) (x : AV) (h : Heap) (K : KP ρ) : Option ρ :=
  match x with
  | .val (.string s) => guardB (Nat.ble s.size most) (addK env h (.ints .u8 (numsOf s)) fun h' => K (.own h.next 0 s.size none 1) h' [] [])
  | _ => none
def sameBytes {ρ : Type} (env : Env) (x : AV) (h : Heap) (K : KP ρ) : Option ρ :=
  match x with
  | .own id off len cap wd => guardB (Nat.blt 0 len) (match h.con id with
    | some c => putK env h id c fun h' => K (.own id off len cap wd) h' [id] [id]
    | none => none)
  | _ => none
def convA {ρ : Type} (env : Env) (src dst : TypeId) (x : AV) (h : Heap) (K : KP ρ) : Option ρ :=
  match env.ty.get src, env.ty.get dst with
  | some s, some d =>
    (match d.desc with
    | .int k => (match x with | .val (.int _ n) => K (.val (.int k (k.wrap n))) h [] [] | _ => none)
    | .string => (match s.desc with
      | .string => (match x with | .val (.string v) => K (.val (.string v)) h [] [] | _ => none)
      | .slice e => (match env.ty.get e with | some i => guardB (isByte i) (bytesStr i x h K) | none => none)
      | _ => none)
    | .slice e => (match s.desc with
      | .string => (match env.ty.get e with | some i => guardB (isByte i) (toBytes env x h K) | none => none)
      | .slice _ => (match env.ty.get e with | some i => guardB (isByte i && Nat.beq src dst) (sameBytes env x h K) | none => none)
      | _ => none)
    | _ => none)
  | _, _ => none
def appNew {ρ : Type} (env : Env) (e : TI) (h : Heap) (len : Nat) (c : Con) (rd : List Nat) (K : KP ρ) : Option ρ :=
  guardB (Nat.ble (len * e.bytes) most && Nat.ble len most) (addK env h c fun h' => K (.own h.next 0 len none e.size) h' rd [])
def appTurn {ρ : Type} (env : Env) (e : TI) (h : Heap) (id len : Nat) (c : Con) (rd : List Nat) (K : KP ρ) : Option ρ :=
  guardB (Nat.ble (len * e.bytes) most && Nat.ble len most) (turnK env h id c fun h' => K (.own h.next 0 len none e.size) h' rd [id])
def appIn {ρ : Type} (env : Env) (h : Heap) (id len m wd : Nat) (c : Con) (rd : List Nat) (K : KP ρ) : Option ρ :=
  guardB (Nat.ble len m) (putK env h id c fun h' => K (.own id 0 len (some m) wd) h' rd [id])
def isTab : Con → Bool
  | .tab _ _ _ => true
  | _ => false
def capN : Option Nat → Nat
  | none => 0
  | some m => m
def inTab (h : Heap) (id off : Nat) (cap : Option Nat) : Bool :=
  match cap with
  | none => false
  | some _ => bif Nat.beq off 0 then (match h.con id with | some c => isTab c | none => false) else false
def roNew (cap : Option Nat) (len n : Nat) : Bool :=
  match cap with
  | none => false
  | some 0 => Nat.beq len 0
  | some m => Nat.beq len m && Nat.blt 0 n
def ownNew (cap : Option Nat) (len n : Nat) : Bool :=
  match cap with
  | none => false
  | some m => Nat.beq m len && Nat.blt 0 n
def appTo {ρ : Type} (env : Env) (e : TI) (s : AV) (h : Heap) (n : Nat) (c : Con) (rd : List Nat) (K : KP ρ) : Option ρ :=
  match s with
  | .val _ => appNew env e h n c rd K
  | .ro o cap => guardB (roNew cap o.len n) (appNew env e h (o.len + n) c rd K)
  | .own id off len cap wd => bif inTab h id off cap then appIn env h id (len + n) (capN cap) wd c (id :: rd) K else
    bif ownNew cap len n then appNew env e h (len + n) c (id :: rd) K else appTurn env e h id (len + n) c (id :: rd) K
  | _ => none
def appendA {ρ : Type} (env : Env) (e : TI) (s : AV) (h : Heap) (new : Con) (rd : List Nat) (K : KP ρ) : Option ρ :=
  onSlice h e s fun old => guardB (Nat.beq old.wd e.size) (match old.cat new with
    | some c => appTo env e s h new.len c rd K
    | none => none)
def copyCon (c : Con) (off n : Nat) (src : Con) : Option Con :=
  match (c.sub 0 off).cat (src.sub 0 n) with
  | some x => x.cat (c.sub (off + n) (c.len - (off + n)))
  | none => none
def copyA {ρ : Type} (env : Env) (d : AV) (h : Heap) (src : Con) (rd : List Nat) (K : KP ρ) : Option ρ :=
  match d with
  | .own id off len _ _ =>
    (match h.con id with
    | some c => guardB (Nat.ble (off + len) c.len && Nat.beq c.wd src.wd) (match copyCon c off (Nat.min src.len len) src with
      | some c' => putK env h id c' fun h' => K (.val (.int .i64 (Nat.min src.len len))) h' (id :: rd) [id]
      | none => none)
    | none => none)
  | _ => none
def foldI (f : Int → Int → Int) : Int → List AV → Option Int
  | x, [] => some x
  | x, .val (.int _ y) :: l => foldI f (f x y) l
  | _, _ => none
def tyA (env : Env) (l : Array TypeId) (i : Nat) : Option TI := match l.toList[i]? with | some t => env.ty.get t | none => none
def lenA {ρ : Type} (env : Env) (argTypes : Array TypeId) (x : AV) (h : Heap) (K : KP ρ) : Option ρ :=
  match tyA env argTypes 0 with
  | some i => (match i.desc with
    | .array n _ => K (.val (.int .i64 n)) h [] []
    | .slice _ => (match lenOfA x with | some n => K (.val (.int .i64 n)) h [] [] | none => none)
    | .string => (match x with | .val (.string s) => K (.val (.int .i64 s.size)) h [] [] | _ => none)
    | .map _ _ => (match x with
      | .val (.map none) => K (.val (.int .i64 0)) h [] []
      | .rmp m => K (.val (.int .i64 m.len)) h [] []
      | .mp id => (match findE h.es id with | some ⟨_, _, .map _ m⟩ => K (.val (.int .i64 m.len)) h [id] [] | _ => none)
      | _ => none)
    | _ => none)
  | none => none
def capA {ρ : Type} (env : Env) (argTypes : Array TypeId) (x : AV) (h : Heap) (K : KP ρ) : Option ρ :=
  match tyA env argTypes 0 with
  | some i => (match i.desc with
    | .slice _ => (match x with
      | .val (.slice none 0 0) => K (.val (.int .i64 0)) h [] []
      | .own _ _ _ (some c) _ => K (.val (.int .i64 c)) h [] []
      | .ro _ (some c) => K (.val (.int .i64 c)) h [] []
      | _ => none)
    | _ => none)
  | none => none
def minmaxA {ρ : Type} (f : Int → Int → Int) (l : List AV) (h : Heap) (K : KP ρ) : Option ρ :=
  match l with
  | .val (.int k x) :: l => (match foldI f x l with | some n => K (.val (.int k n)) h [] [] | none => none)
  | _ => none
def srcCon (h : Heap) (i : TI) : AV → Option Con
  | .val (.slice (some _) 0 _) => some (emptyC i)
  | x => sliceCon h i x
def onSrc {ρ : Type} (h : Heap) (i : TI) (x : AV) (F : Con → Option ρ) : Option ρ :=
  match x with
  | .val (.slice (some _) 0 _) => F (emptyC i)
  | x => onSlice h i x F
def srcD (d : TypeDesc) : Bool := match d with | .slice _ => true | .string => true | _ => false
def srcK {ρ : Type} (h : Heap) (i xt : TI) (x : AV) (K : Con → List Nat → Option ρ) : Option ρ :=
  bif srcD xt.desc then
    match x with
    | .val (.string s') => guardB (Nat.beq i.size 1) (K (.ints .u8 (numsOf s')) [])
    | x => onSrc h i x fun c => guardB (Nat.beq c.wd i.size) (K c (rdOf x))
  else none
def appendB {ρ : Type} (env : Env) (argTypes : Array TypeId) (s x : AV) (h : Heap) (K : KP ρ) : Option ρ :=
  match tyA env argTypes 0, tyA env argTypes 1 with
  | some st, some xt => (match st.desc with
    | .slice e => (match env.ty.get e with
      | some i => (match xt.desc with
        | .int _ => (match x.int? with
          | some n => guardB (decide (0 ≤ n) && decide (n ≤ (most : Int)) && decide (n * i.bytes ≤ (most : Int))) (appendA env i s h (zeros i n.toNat) [] K)
          | none => none)
        | _ => srcK h i xt x fun c rd => appendA env i s h c rd K)
      | none => none)
    | _ => none)
  | _, _ => none
def copyB {ρ : Type} (env : Env) (argTypes : Array TypeId) (d x : AV) (h : Heap) (K : KP ρ) : Option ρ :=
  match tyA env argTypes 0, tyA env argTypes 1 with
  | some st, some xt => (match st.desc with
    | .slice e => (match env.ty.get e with
      | some i => srcK h i xt x fun c rd => copyA env d h c rd K
      | none => none)
    | _ => none)
  | _, _ => none
def builtinA {ρ : Type} (env : Env) (b : Builtin) (argTypes : Array TypeId) (args : List AV) (h : Heap) (K : KP ρ) : Option ρ :=
  match b with
  | .len => (match args with | [x] => lenA env argTypes x h K | _ => none)
  | .cap => (match args with | [x] => capA env argTypes x h K | _ => none)
  | .max => minmaxA (fun x y => if y > x then y else x) args h K
  | .min => minmaxA (fun x y => if y < x then y else x) args h K
  | .append => (match args with | [s, x] => appendB env argTypes s x h K | _ => none)
  | .copy => (match args with | [d, x] => copyB env argTypes d x h K | _ => none)
  | _ => none
def cellOk : AV → Bool
  | .unk => false
  | .agg _ => false
  | .tup _ => false
  | .val v => (match v with | .agg _ => false | .tuple _ => false | _ => true)
  | _ => true
def okCells (l : List AV) : Bool := foldL true (fun v _ ih => cellOk v && ih) l
def fillA (place : Nat → Option (Nat × Nat)) (cells : List AV) : List (Nat × AV) → Option (List AV)
  | [] => some cells
  | (i, v) :: rest =>
    match place i with
    | none => none
    | some (off, size) => bif okCells v.cells && (Nat.beq v.cells.length size && Nat.ble (off + size) cells.length) then fillA place (splice cells off v.cells) rest else none
def chunk : Nat → Nat → List AV → List (List AV)
  | 0, _, _ => []
  | n + 1, w, l => l.take w :: chunk n w (l.drop w)
def repCells : Nat → List AV → List AV
  | 0, _ => []
  | n + 1, l => l ++ repCells n l
def partsA (t : List AV) (ps : List (Nat × Operand)) : List (Nat × AV) := ps.map fun p => (p.1, ev t p.2)
def placeS (env : Env) (fs : Array Field) (j : Nat) : Option (Nat × Nat) :=
  match fs.toList[j]? with
  | some f => (match env.ty.get f.type with | some ti => some (f.offset, ti.size) | none => none)
  | none => none
def pickA {ρ : Type} (c a b : AV) (h : Heap) (K : KP ρ) : Option ρ :=
  match c with | .val (.bool x) => bif x then K a h [] [] else K b h [] [] | _ => none
def flatRows (l : List AV) : List (List AV) := foldL [] (fun v _ ih => [v] :: ih) l
def allocA {ρ : Type} (env : Env) (e : TypeId) (h : Heap) (K : KP ρ) : Option ρ :=
  match env.ty.get e with
  | some i => bif memN e env.flat then addK env h (.rows true 1 (flatRows (ofVal i.zero).cells)) fun h' => K (.ptr h.next 0 0) h' [] []
    else addK env h (.rows true i.size [(ofVal i.zero).cells]) fun h' => K (.ptr h.next 0 0) h' [] []
  | none => none
def boxA {ρ : Type} (env : Env) (e : TypeId) (x : AV) (h : Heap) (K : KP ρ) : Option ρ :=
  match env.ty.get e with
  | some i => guardB (okCells x.cells && Nat.beq x.cells.length i.size) (bif memN e env.flat then addK env h (.rows (pures x.cells) 1 (flatRows x.cells)) fun h' => K (.ptr h.next 0 0) h' [] []
    else addK env h (.rows (pures x.cells) i.size [x.cells]) fun h' => K (.ptr h.next 0 0) h' [] [])
  | none => none
def buildA {ρ : Type} (env : Env) (ty : TypeId) (ps : List (Nat × AV)) (h : Heap) (K : KP ρ) : Option ρ :=
  match env.ty.get ty with
  | some i => (match i.desc with
    | .struct fs => (match fillA (placeS env fs) (ofVal i.zero).cells ps with
      | some l => K (.agg l) h [] []
      | none => none)
    | .array _ e => (match env.ty.get e with
      | some ti => (match fillA (fun j => some (j * ti.size, ti.size)) (ofVal i.zero).cells ps with
        | some l => K (.agg l) h [] []
        | none => none)
      | none => none)
    | _ => none)
  | none => none
def buildSliceA {ρ : Type} (env : Env) (ty : TypeId) (n : Nat) (ps : List (Nat × AV)) (h : Heap) (K : KP ρ) : Option ρ :=
  match env.ty.get ty with
  | some st => (match st.desc with
    | .slice e => (match env.ty.get e with
      | some i => guardB (Nat.ble (n * i.size) 65536) (match fillA (fun j => some (j * i.size, i.size)) (repCells n (ofVal i.zero).cells) ps with
        | some l => addK env h (conOf i (chunk n i.size l)) fun h' => K (.own h.next 0 n (some n) i.size) h' [] []
        | none => none)
      | none => none)
    | _ => none)
  | none => none
def loadCon {ρ : Type} (i : TI) (con : Con) (r c : Nat) (rd : List Nat) (h : Heap) (K : KP ρ) : Option ρ :=
  guardB (Nat.ble (c + i.size) con.wd) (match part i (con.row r) c with | some v => K v h rd [] | none => none)
def spanA (con : Con) (n : Nat) : Nat → List AV := Nat.rec (fun _ => []) (fun _ ih r => (con.row r).headD .unk :: ih (r + 1)) n
def isFlat (con : Con) (c n : Nat) : Bool := Nat.beq con.wd 1 && Nat.blt 1 (c + n)
def loadFlat {ρ : Type} (i : TI) (con : Con) (r : Nat) (rd : List Nat) (h : Heap) (K : KP ρ) : Option ρ :=
  guardB (Nat.ble (r + i.size) con.len && Nat.blt 0 i.size) (match part i (spanA con i.size r) 0 with | some v => K v h rd [] | none => none)
def loadA {ρ : Type} (env : Env) (ty : TypeId) (a : AV) (h : Heap) (K : KP ρ) : Option ρ :=
  match env.ty.get ty with
  | some i => (match a with
    | .ptr id r c => (match h.con id with
      | some con => bif isFlat con c i.size then loadFlat i con (r + c) [id] h K else guardB (Nat.blt r con.len) (loadCon i con r c [id] h K)
      | none => none)
    | .rptr con r c => bif isFlat con c i.size then loadFlat i con (r + c) [] h K else loadCon i con r c [] h K
    | _ => none)
  | none => none
def tabSet (n : Nat) (f : Nat → List AV) (r : Nat) (x : List AV) : List (List AV) := ((List.range n).map f).set r x
def storeCon (con : Con) (r c : Nat) (cs : List AV) : Option Con :=
  match con with
  | .ints k l => (match cs with
    | [.val (.int k' n)] => bif decide (k = k') && Nat.beq c 0 && Nat.blt r l.length then some (.ints k (l.set r n)) else none
    | _ => none)
  | .rows p w l => bif Nat.blt r l.length && (Nat.ble (c + cs.length) (l.getD r []).length && Nat.ble (c + cs.length) w) then some (.rows (p && pures cs) w (l.set r (splice (l.getD r []) c cs))) else none
  | .tab w n f => bif Nat.blt r n && (Nat.ble (c + cs.length) (f r).length && Nat.ble (c + cs.length) w) then some (.rows (pures cs) w (tabSet n f r (splice (f r) c cs))) else none
def onStore {ρ : Type} (con : Con) (r c : Nat) (cs : List AV) (F : Con → Option ρ) : Option ρ :=
  match con with
  | .ints k l => (match cs with
    | [.val (.int k' n)] => guardB (decide (k = k') && Nat.beq c 0 && Nat.blt r l.length) (F (.ints k (l.set r n)))
    | _ => none)
  | .rows p w l => guardB (Nat.blt r l.length && (Nat.ble (c + cs.length) (l.getD r []).length && Nat.ble (c + cs.length) w)) (F (.rows (p && pures cs) w (l.set r (splice (l.getD r []) c cs))))
  | .tab w n f => guardB (Nat.blt r n && (Nat.ble (c + cs.length) (f r).length && Nat.ble (c + cs.length) w)) (F (.rows (pures cs) w (tabSet n f r (splice (f r) c cs))))
def flatSet : Con → Nat → List AV → Option Con
  | .rows p _ l, r, cs => some (.rows (p && pures cs) 1 (splice l r (flatRows cs)))
  | .tab _ n f, r, cs => some (.rows (pures cs) 1 (splice ((List.range n).map f) r (flatRows cs)))
  | _, _, _ => none
def storeFlat {ρ : Type} (con : Con) (r : Nat) (cs : List AV) (F : Con → Option ρ) : Option ρ :=
  guardB (Nat.ble (r + cs.length) con.len) (match flatSet con r cs with | some c' => F c' | none => none)
def storeA {ρ : Type} (env : Env) (ty : TypeId) (a x : AV) (h : Heap) (K : KP ρ) : Option ρ :=
  match env.ty.get ty with
  | some i => (match a with
    | .ptr id r c => guardB (okCells x.cells && Nat.beq x.cells.length i.size) (match h.con id with
      | some con => bif isFlat con c i.size then storeFlat con (r + c) x.cells fun con' => putK env h id con' fun h' => K undefA h' [id] [id]
        else onStore con r c x.cells fun con' => putK env h id con' fun h' => K undefA h' [id] [id]
      | none => none)
    | _ => none)
  | none => none
def nilCheckA {ρ : Type} (x : AV) (h : Heap) (K : KP ρ) : Option ρ :=
  match x with
  | .ptr id r c => K (.ptr id r c) h [] []
  | .rptr con r c => K (.rptr con r c) h [] []
  | .clo (.func f) a b => K (.clo (.func f) a b) h [] []
  | .clo (.yield l) a b => K (.clo (.yield l) a b) h [] []
  | _ => none
def unA {ρ : Type} (op : UnOp) (x : AV) (h : Heap) (K : KP ρ) : Option ρ :=
  match x with
  | .val v => optV (pureOf (Op.unary op v)) fun v => K v h [] []
  | _ => none
def ifaceA {ρ : Type} (env : Env) (ty : TypeId) (x : AV) (h : Heap) (K : KP ρ) : Option ρ :=
  match env.ty.get ty with
  | some i => (match i.desc with
    | .interface _ => none
    | _ => (match x with
      | .val v => K (.val (.iface ty v)) h [] []
      | v => K (.ifc ty v) h [] []))
  | none => none
def makeSliceA {ρ : Type} (env : Env) (ty : TypeId) (n c : Option Int) (h : Heap) (K : KP ρ) : Option ρ :=
  match env.ty.get ty with
  | some st => (match st.desc with
    | .slice e => (match env.ty.get e, n, c with
      | some i, some n, some c => guardB (decide (0 ≤ n) && decide (n ≤ c) && decide (c * i.bytes ≤ (most : Int)) && decide (c ≤ (most : Int)))
          (addK env h (zeros i c.toNat) fun h' => K (.own h.next 0 n.toNat (some c.toNat) i.size) h' [] [])
      | _, _, _ => none)
    | _ => none)
  | none => none
def fieldAddrA {ρ : Type} (env : Env) (ty : TypeId) (x : AV) (f : Nat) (h : Heap) (K : KP ρ) : Option ρ :=
  match env.ty.get ty with
  | some i => (match i.desc with
    | .struct fs => (match placeS env fs f with
      | some (off, size) => guardB (Nat.blt 0 size) (match x with
        | .ptr id r c => K (.ptr id r (c + off)) h [] []
        | .rptr con r c => K (.rptr con r (c + off)) h [] []
        | _ => none)
      | none => none)
    | _ => none)
  | none => none
def fieldA {ρ : Type} (env : Env) (ty : TypeId) (x : AV) (f : Nat) (h : Heap) (K : KP ρ) : Option ρ :=
  match env.ty.get ty with
  | some i => (match i.desc with
    | .struct fs => (match fs.toList[f]?, x with
      | some fd, .agg l => (match env.ty.get fd.type with
        | some ti => (match part ti l fd.offset with | some v => K v h [] [] | none => none)
        | none => none)
      | _, _ => none)
    | _ => none)
  | none => none
def inR (i : Int) (n : Nat) : Bool := decide (0 ≤ i) && decide (i < (n : Int))
def flatAt (h : Heap) (id : Nat) : Bool := match h.con id with | some con => Nat.beq con.wd 1 | none => false
def indexAddrA {ρ : Type} (env : Env) (ty : TypeId) (x : AV) (i : Int) (h : Heap) (K : KP ρ) : Option ρ :=
  match env.ty.get ty with
  | some st => (match st.desc with
    | .slice e => (match env.ty.get e with
      | some ti => (match x with
        | .ro c _ => guardB (Nat.beq c.wd ti.size && inR i c.len) (K (.rptr c i.toNat 0) h [] [])
        | .own id off len _ wd => guardB (Nat.beq wd ti.size && inR i len) (K (.ptr id (off + i.toNat) 0) h [] [])
        | _ => none)
      | none => none)
    | .array n e => (match env.ty.get e with
      | some ti => guardB (Nat.blt 1 n && inR i n) (match x with
        | .ptr id r c => bif flatAt h id then K (.ptr id (r + c + i.toNat * ti.size) 0) h [id] [] else splitNat n i.toNat 0 fun j => K (.ptr id r (c + j * ti.size)) h [] []
        | .rptr con r c => bif Nat.beq con.wd 1 then guardB (Nat.blt (r + c + i.toNat * ti.size) con.len) (K (.rptr con (r + c + i.toNat * ti.size) 0) h [] []) else splitNat n i.toNat 0 fun j => K (.rptr con r (c + j * ti.size)) h [] []
        | _ => none)
      | none => none)
    | _ => none)
  | none => none
def indexA {ρ : Type} (env : Env) (ty : TypeId) (x : AV) (i : Int) (h : Heap) (K : KP ρ) : Option ρ :=
  match env.ty.get ty with
  | some st => (match st.desc with
    | .array n e => (match env.ty.get e, x with
      | some ti, .agg l => guardB (inR i n) (splitNat n i.toNat 0 fun j => match part ti l (j * ti.size) with | some v => K v h [] [] | none => none)
      | _, _ => none)
    | .string => (match x with
      | .val (.string s) => guardB (inR i s.size) (K (.val (.int .u8 ((numsOf s).getD i.toNat 0))) h [] [])
      | _ => none)
    | _ => none)
  | none => none
def assertA {ρ : Type} (env : Env) (x : AV) (ty : TypeId) (ok : Bool) (h : Heap) (K : KP ρ) : Option ρ :=
  match env.ty.get ty with
  | some i => (match i.desc with
    | .interface _ => none
    | _ =>
      let no : Option ρ := bif ok then K (.tup [ofVal i.zero, .val (.bool false)]) h [] [] else none
      let yes (v : AV) : Option ρ := K (bif ok then .tup [v, .val (.bool true)] else v) h [] []
      (match x with
      | .val (.iface u v) => bif Nat.beq u ty then yes (ofVal v) else no
      | .ifc u v => bif Nat.beq u ty then yes v else no
      | .val .nilIface => no
      | _ => none))
  | none => none
def extractA {ρ : Type} (x : AV) (i : Nat) (h : Heap) (K : KP ρ) : Option ρ :=
  match x with
  | .tup l => (match l[i]? with | some v => K v h [] [] | none => none)
  | _ => none
def keyD : TypeDesc → Bool
  | .int _ => true
  | .string => true
  | .bool => true
  | _ => false
def searchL {ρ : Type} (d : TypeDesc) (k : Value) (F : Nat → AV → Option ρ) (G : Option ρ) (l : List ME) : Nat → Option ρ :=
  foldL (fun _ => G) (fun e _ ih i => match Instr.sameNow d k e.key with | some x => bif x then F i e.val else ih (i + 1) | none => none) l
def okKeys (d : TypeDesc) (k : Value) (n : Nat) (f : Nat → ME) : Bool := @decide (∀ i, i < n → (Instr.sameNow d k (f i).key).isSome = true) (Classical.propDecidable _)
def hasKey (d : TypeDesc) (k : Value) (n : Nat) (f : Nat → ME) : Bool := @decide (∃ i, i < n ∧ Instr.sameNow d k (f i).key = some true) (Classical.propDecidable _)
def idxKey (d : TypeDesc) (k : Value) (n : Nat) (f : Nat → ME) : Nat := (List.range n).findIdx fun i => Instr.sameNow d k (f i).key == some true
def searchK {ρ : Type} (d : TypeDesc) (k : Value) (m : MC) (F : Nat → AV → Option ρ) (G : Option ρ) : Option ρ :=
  match m with
  | .ents l _ => searchL d k F G l 0
  | .mtab n f _ => guardB (okKeys d k n f) (bif hasKey d k n f then F (idxKey d k n f) (f (idxKey d k n f)).val else G)
def searchB {ρ : Type} (b : Int) (F : Nat → Option ρ) (l : List ME) : Nat → Option ρ :=
  foldL (fun _ => none) (fun e _ ih i => bif (e.born : Int) == b then F i else ih (i + 1)) l
def hasBorn (b : Int) (n : Nat) (f : Nat → ME) : Bool := @decide (∃ i, i < n ∧ ((f i).born : Int) = b) (Classical.propDecidable _)
def idxBorn (b : Int) (n : Nat) (f : Nat → ME) : Nat := (List.range n).findIdx fun i => ((f i).born : Int) == b
def searchS {ρ : Type} (b : Int) (m : MC) (F : Nat → Option ρ) : Option ρ :=
  match m with
  | .ents l _ => searchB b F l 0
  | .mtab n f _ => guardB (hasBorn b n f) (F (idxBorn b n f))
def MC.upd (m : MC) (i : Nat) (e : ME) : MC :=
  match m with
  | .ents l c => .ents (setL l i e) c
  | .mtab n f c => .mtab n (fun j => bif Nat.beq j i then e else f j) c
def MC.push (m : MC) (k : Value) (v : AV) : MC :=
  match m with
  | .ents l c => .ents (l ++ [.mk k v c]) (c + 1)
  | .mtab n f c => .mtab (n + 1) (fun j => bif Nat.beq j n then .mk k v c else f j) (c + 1)
def mapTy {ρ : Type} (env : Env) (t : TypeId) (F : TypeDesc → TI → Option ρ) : Option ρ :=
  match env.ty.get t with
  | some i => (match i.desc with
    | .map kt et => (match env.ty.get kt, env.ty.get et with
      | some ki, some ei => guardB (keyD ki.desc) (F ki.desc ei)
      | _, _ => none)
    | _ => none)
  | none => none
def onMap {ρ : Type} (h : Heap) (id : Nat) (F : Bool → MC → Option ρ) : Option ρ :=
  match findE h.es id with
  | some ⟨_, _, .map p m⟩ => F p m
  | _ => none
def putM {ρ : Type} (env : Env) (h : Heap) (id : Nat) (p : Bool) (m : MC) (K : Heap → Option ρ) : Option ρ := sHeap env.strict (h.put id (.map p m)) K
def foundA (ok : Bool) (v : AV) (b : Bool) : AV := bif ok then .tup [v, .val (.bool b)] else v
def lookupA {ρ : Type} (env : Env) (t : TypeId) (x k : AV) (ok : Bool) (h : Heap) (K : KP ρ) : Option ρ :=
  match k with
  | .val kv => mapTy env t fun kd ei => (match x with
    | .val (.map none) => K (foundA ok (ofVal ei.zero) false) h [] []
    | .rmp m => searchK kd kv m (fun _ v => K (foundA ok v true) h [] []) (K (foundA ok (ofVal ei.zero) false) h [] [])
    | .mp id => onMap h id fun _ m => searchK kd kv m (fun _ v => K (foundA ok v true) h [id] []) (K (foundA ok (ofVal ei.zero) false) h [id] [])
    | _ => none)
  | _ => none
def mapUpdA {ρ : Type} (env : Env) (t : TypeId) (x k v : AV) (h : Heap) (K : KP ρ) : Option ρ :=
  match x with
  | .mp id => (match k with
    | .val kv => mapTy env t fun kd _ => onMap h id fun p m =>
      searchK kd kv m (fun i _ => putM env h id (p && v.pure) (m.upd i (.mk kv v (m.ent i).born)) fun h' => K undefA h' [id] [id])
        (putM env h id (p && v.pure) (m.push kv v) fun h' => K undefA h' [id] [id])
    | _ => none)
  | _ => none
def mapEntryA {ρ : Type} (env : Env) (t : TypeId) (x k : AV) (h : Heap) (K : KP ρ) : Option ρ :=
  match x with
  | .mp id => (match k with
    | .val kv => mapTy env t fun kd ei => onMap h id fun p m =>
      searchK kd kv m (fun i v => putM env h id p (m.upd i (.mk kv v (m.ent i).born)) fun h' => K (.tup [v, .val (.int .i64 (m.ent i).born)]) h' [id] [id])
        (putM env h id p (m.push kv (ofVal ei.zero)) fun h' => K (.tup [ofVal ei.zero, .val (.int .i64 m.clock)]) h' [id] [id])
    | _ => none)
  | _ => none
def entryStoreA {ρ : Type} (env : Env) (x s v : AV) (h : Heap) (K : KP ρ) : Option ρ :=
  match x with
  | .mp id => (match s with
    | .val (.int _ b) => onMap h id fun p m => searchS b m fun i => putM env h id (p && v.pure) (m.upd i (.mk (m.ent i).key v (m.ent i).born)) fun h' => K undefA h' [id] [id]
    | _ => none)
  | _ => none
def isIntA : AV → Bool
  | .val (.int _ _) => true
  | _ => false
def makeMapA {ρ : Type} (env : Env) (t : TypeId) (r : Option AV) (h : Heap) (K : KP ρ) : Option ρ :=
  mapTy env t fun _ _ => guardB (match r with | some v => isIntA v | none => true) (sHeap env.strict (h.add (.map true (.ents [] 0))) fun h' => K (.mp h.next) h' [] [])
def decL (l : List Int) : Nat × Nat := Utf8.decode (strOf l) 0
def rangeA {ρ : Type} (env : Env) (t : TypeId) (x : AV) (h : Heap) (K : KP ρ) : Option ρ :=
  match env.ty.get t with
  | some i => (match i.desc with
    | .string => (match x with
      | .val (.string s) => sHeap env.strict (h.add (.iter 0 (numsOf s))) fun h' => K (.ptr h.next 0 0) h' [] []
      | _ => none)
    | _ => none)
  | none => none
def nextA {ρ : Type} (env : Env) (x : AV) (isS : Bool) (h : Heap) (K : KP ρ) : Option ρ :=
  match x with
  | .ptr id 0 0 => bif isS then (match findE h.es id with
    | some ⟨_, _, .iter pos l⟩ => (match l with
      | [] => K (.tup [.val (.bool false)]) h [id] []
      | b :: l => bif decide (0 ≤ b) && decide (b < 128) then (sHeap env.strict (h.put id (.iter (pos + 1) l)) fun h' => K (.tup [.val (.bool true), .val (.int .i64 pos), .val (.int .i32 b)]) h' [id] [id])
        else K (.tup [.val (.bool true), .val (.int .i64 pos), .val (.int .i32 (decL (b :: l)).1)]) (h.put id (.iter (pos + (decL (b :: l)).2) ((b :: l).drop (decL (b :: l)).2))) [id] [id])
    | _ => none) else none
  | _ => none
def prim {ρ : Type} (env : Env) (o : Op) (t : List AV) (h : Heap) (K : KP ρ) : Option ρ :=
  match o with
  | .move x | .assign x => K (ev t x) h [] []
  | .pick c a b => pickA (ev t c) (ev t a) (ev t b) h K
  | .alloc e => allocA env e h K
  | .box e x => boxA env e (ev t x) h K
  | .build ty parts => buildA env ty (partsA t parts.toList) h K
  | .buildSlice ty n parts => buildSliceA env ty n (partsA t parts.toList) h K
  | .load ty a => loadA env ty (ev t a) h K
  | .store ty a x => storeA env ty (ev t a) (ev t x) h K
  | .nilCheck x => nilCheckA (ev t x) h K
  | .binOp op ty x y _ => binA env op ty (isLit x || isLit y) (ev t x) (ev t y) fun v => K v h [] []
  | .unOp op _ x => unA op (ev t x) h K
  | .convert src dst x => convA env src dst (ev t x) h K
  | .makeInterface ty x => ifaceA env ty (ev t x) h K
  | .makeFunc f a b => bif notYield f then K (.clo f (evs t a.toList) (evs t b.toList)) h [] [] else none
  | .makeSlice ty n c => makeSliceA env ty (ev t n).int? (ev t c).int? h K
  | .slice ty x lo hi mx => slicePtr env ty (ev t x) (lo.map (ev t)) (hi.map (ev t)) (mx.map (ev t)) h K
  | .fieldAddr ty x f => fieldAddrA env ty (ev t x) f h K
  | .field ty x f => fieldA env ty (ev t x) f h K
  | .indexAddr ty x ix => (match (ev t ix).int? with | some i => indexAddrA env ty (ev t x) i h K | none => none)
  | .index ty x ix => (match (ev t ix).int? with | some i => indexA env ty (ev t x) i h K | none => none)
  | .typeAssert x _ ty ok => assertA env (ev t x) ty ok h K
  | .extract x i => extractA (ev t x) i h K
  | .makeMap ty r => makeMapA env ty (r.map (ev t)) h K
  | .lookup ty x ix ok => lookupA env ty (ev t x) (ev t ix) ok h K
  | .mapUpdate ty m k x => mapUpdA env ty (ev t m) (ev t k) (ev t x) h K
  | .insert ty m k x => mapUpdA env ty (ev t m) (ev t k) (ev t x) h K
  | .mapEntry ty m k => mapEntryA env ty (ev t m) (ev t k) h K
  | .entryStore _ m s x => entryStoreA env (ev t m) (ev t s) (ev t x) h K
  | .range ty x => rangeA env ty (ev t x) h K
  | .next it isS => nextA env (ev t it) isS h K
  | _ => none
structure St where
  t : List AV
  d : List Nat
  h : Heap
inductive AX where
  | normal
  | exit (id : Nat)
  | ret
  | pan (v : Value)
abbrev KC (ρ : Type) := AX → St → Option ρ
def Calling := (ρ : Type) → AV → List AV → Heap → (AV → Heap → Option ρ) → Option ρ
def turned (l es' : List Ent) : List Nat := foldL [] (fun e _ ih => match findE es' e.id with
  | some e' => bif Nat.beq e.ver e'.ver then ih else e.id :: ih
  | none => e.id :: ih) l
def ids (l : List Ent) : List Nat := foldL [] (fun e _ ih => e.id :: ih) l
def fuelR : Nat := 1000000
def restHeap (next : Nat) (es2 : List Ent) (es : List Ent) (sub : List Nat) : Heap := ⟨next, es2 ++ dropE es sub⟩
def callOp {ρ : Type} (s : Bool) (call : Calling) (f : AV) (args : List AV) (h : Heap) (K : KP ρ) : Option ρ :=
  sSp s (pickE h.es (reach fuelR h.es (f.refs ++ refss args) [])) fun sub =>
  call ρ f args ⟨h.next, sub⟩ fun v h2 =>
    sAV s v fun v => sSp s (pickE h2.es (reach fuelR h2.es (v.refs ++ ids sub) [])) fun es2 => sHeap s (restHeap h2.next es2 h.es (ids sub)) fun h' =>
    K v h' (ids sub) (turned sub es2)
def valOf0 : AV → Option Value
  | .val v => some v
  | _ => none
def valsOf0 (l : List AV) : Option (List Value) := foldL (some []) (fun v _ ih => match valOf0 v, ih with | some v, some l => some (v :: l) | _, _ => none) l
def valOf1 : AV → Option Value
  | .val v => some v
  | .agg l => (match valsOf0 l with | some l => some (.agg l.toArray) | none => none)
  | _ => none
def panArg : List AV → Option Value
  | [.ifc t v] => (match valOf1 v with | some v => some (.iface t v) | none => none)
  | _ => none
def isPanB : Builtin → Bool
  | .panic => true
  | _ => false
def panK {ρ : Type} (X : Value → Heap → Option ρ) (K : KP ρ) : KP ρ := fun v h' rd wr => match v with
  | .pan x => X x h'
  | v => K v h' rd wr
def opCall {ρ : Type} (env : Env) (call : Calling) (c : Call) (t : List AV) (h : Heap) (X : Value → Heap → Option ρ) (K : KP ρ) : Option ρ :=
  match c.callee with
  | .value f => callOp env.strict call (ev t f) (evs t c.args.toList) h (panK X K)
  | .builtin b => bif isPanB b then (match panArg (evs t c.args.toList) with | some x => X x h | none => none) else builtinA env b c.argTypes (evs t c.args.toList) h K
  | _ => none
def opK {ρ : Type} (env : Env) (call : Calling) (o : Op) (t : List AV) (h : Heap) (X : Value → Heap → Option ρ) (K : KP ρ) : Option ρ :=
  match o with
  | .call c => opCall env call c t h X K
  | o => prim env o t h K
def setT (t : List AV) (d : Option Tmp) (v : AV) : List AV :=
  match d with
  | some i => setL t i v
  | none => t
def wantV {ρ : Type} (v : AV) (want : Bool) (yes no : Option ρ) : Option ρ :=
  match v with
  | .val (.bool b) => bif b == want then yes else no
  | .val (.tuple _) => no
  | _ => none
def wantK {ρ : Type} (dsts : List (Option Tmp)) (g : Option (Nat × Bool)) (t : List AV) (yes no : Option ρ) : Option ρ :=
  match g with
  | none => yes
  | some (j, want) =>
    match (nthD none dsts j) with
    | none => none
    | some d => wantV (getT t d) want yes no
structure Foot where
  rt : List Nat
  wt : Option Nat
  r : List Nat
  w : List Nat
  lo : Nat
  hi : Nat
  post : Heap
  ld : Option (TypeId × AV × AV)
def ldOf (o : Op) (t : List AV) (v : AV) : Option (TypeId × AV × AV) :=
  match o with
  | .load ty x => some (ty, ev t x, v)
  | _ => none
def tmpsOf : List Operand → List Nat
  | [] => []
  | .tmp t :: l => t :: tmpsOf l
  | _ :: l => tmpsOf l
def guardT (dsts : List (Option Tmp)) (g : Option (Nat × Bool)) : List Nat := match g with | some (j, _) => (nthD none dsts j).toList | none => []
def footOf (draw : Bool) (dsts : List (Option Tmp)) (o : Oper) (t : List AV) (v : AV) (r w : List Nat) (h h' : Heap) (fs : List Foot) : List Foot :=
  bif draw then ⟨guardT dsts o.guard ++ tmpsOf o.op.operands.toList, o.dst, r, w, h.next, h'.next, h', ldOf o.op t v⟩ :: fs else fs
def footNo (draw : Bool) (dsts : List (Option Tmp)) (o : Oper) (h : Heap) (fs : List Foot) : List Foot :=
  bif draw then ⟨guardT dsts o.guard, o.dst, [], [], h.next, h.next, h, none⟩ :: fs else fs
def runStep {ρ : Type} (env : Env) (call : Calling) (draw : Bool) (dsts : List (Option Tmp)) (o : Oper) (X : List Foot → List AV → Heap → Value → Heap → Option ρ) (go : List Foot → List AV → Heap → Option ρ) (fs : List Foot) (t : List AV) (h : Heap) : Option ρ :=
  wantK dsts o.guard t
    (opK env call o.op t h (X fs t h) fun v h' r w => sAV env.strict v fun v => sSp env.strict (setT t o.dst v) fun t' => go (footOf draw dsts o t v r w h h' fs) t' h')
    (sSp env.strict (setT t o.dst undefA) fun t' => go (footNo draw dsts o h fs) t' h)
def runOps {ρ : Type} (env : Env) (call : Calling) (draw : Bool) (dsts : List (Option Tmp)) (X : List Foot → List AV → Heap → Value → Heap → Option ρ) (K : List Foot → List AV → Heap → Option ρ) (l : List Oper) : List Foot → List AV → Heap → Option ρ :=
  List.rec K (fun o _ ih => runStep env call draw dsts o X ih) l
def disj : List Nat → List Nat → Bool
  | [], _ => true
  | a :: l, m => bif memN a m then false else disj l m
def outside (lo hi : Nat) (l : List Nat) : Bool := foldL true (fun id _ ih => bif Nat.blt id lo then ih else bif Nat.ble hi id then ih else false) l
def apartF (a b : Foot) : Bool :=
  disj a.wt.toList b.rt && (disj a.wt.toList b.wt.toList && (disj b.wt.toList a.rt && (disj a.w b.r && (disj a.w b.w && (disj b.w a.r && (outside b.lo b.hi a.r && (outside b.lo b.hi a.w && outside a.lo a.hi b.r)))))))
def sameI : AV → AV → Bool
  | .val (.int k n), .val (.int k' m) => decide (k = k') && decide (n = m)
  | _, _ => false
def noNats : List Nat → Bool
  | [] => true
  | _ => false
def oneL : List Nat → Bool
  | [_] => true
  | _ => false
def subL (l m : List Nat) : Bool := foldL true (fun x _ ih => memN x m && ih) l
def reload (env : Env) (ty : TypeId) (p v : AV) (h : Heap) (r : List Nat) : Bool :=
  match loadA env ty p h (fun v' h' R W => bif Nat.beq h'.next h.next && (noNats W && subL R r) && sameI v v' then some () else none) with
  | some _ => true
  | none => false
def softF (env : Env) (a b : Foot) : Bool :=
  match b.ld with
  | none => false
  | some (ty, p, v) => noNats b.w && (Nat.beq b.lo b.hi && (oneL b.r && (disj a.wt.toList b.rt && (disj a.wt.toList b.wt.toList && (disj b.wt.toList a.rt && (outside a.lo a.hi b.r && reload env ty p v a.post b.r))))))
def apartAll (env : Env) (f : Foot) (b : Nat) : Nat → List Foot → Bool
  | _, [] => true
  | 0, _ => true
  | i + 1, g :: gs => (Nat.testBit b i || (apartF f g || softF env f g)) && apartAll env f b i gs
def apartOps (env : Env) : List Nat → Nat → List Foot → Bool
  | _, _, [] => true
  | [], _, _ => true
  | b :: bs, i, f :: fs => apartAll env f b (i - 1) fs && apartOps env bs (i - 1) fs
def backs : Nat → List Oper → Bool
  | _, [] => true
  | i, o :: l => o.after.toList.all (fun e => !Region.binds .any e || Nat.blt e.on i) && backs (i + 1) l
def rtOf (dsts : List (Option Tmp)) (o : Oper) : List Nat := guardT dsts o.guard ++ tmpsOf o.op.operands.toList
def footIdle (o : Oper) (h : Heap) : Foot := ⟨[], o.dst, [], [], h.next, h.next, h, none⟩
def restStep {ρ : Type} (env : Env) (call : Calling) (dsts : List (Option Tmp)) (bs : List Nat) (p : Nat) (o : Oper) (go : List Foot → List AV → Heap → Option ρ) (fs : List Foot) (t : List AV) (h : Heap) : Option ρ :=
  bif Nat.testBit (nthD 0 bs fs.length) p then sSp env.strict (setT t o.dst undefA) fun t' => go (footIdle o h :: fs) t' h
  else runStep env call true dsts o (fun _ _ _ _ _ => none) go fs t h
def runRest {ρ : Type} (env : Env) (call : Calling) (dsts : List (Option Tmp)) (bs : List Nat) (p : Nat) (K : List Foot → List AV → Heap → Option ρ) (l : List Oper) : List Foot → List AV → Heap → Option ρ :=
  List.rec K (fun o _ ih => restStep env call dsts bs p o ih) l
def calmAll (rtp : List Nat) (b p : Nat) : Nat → List Foot → Bool
  | _, [] => true
  | 0, _ => true
  | i + 1, g :: gs => (Nat.beq i p || ((Nat.blt i p && Nat.testBit b i) || (noNats g.w && (Nat.beq g.lo g.hi && disj g.wt.toList rtp)))) && calmAll rtp b p i gs
def unkT (t : List AV) : List AV := foldL [] (fun _ _ ih => AV.unk :: ih) t
def panRest {ρ : Type} (env : Env) (call : Calling) (ops : Array Oper) (K : KC ρ) (d : List Nat) (fs : List Foot) (t : List AV) (h : Heap) (x : Value) (h' : Heap) : Option ρ :=
  match nth ops.toList fs.length with
  | none => none
  | some o => runRest env call (ops.toList.map (·.dst)) (Region.before ops).toList fs.length (fun fs2 _ _ =>
      bif backs 0 ops.toList && (apartOps env (Region.before ops).toList.reverse fs2.length fs2 && calmAll (rtOf (ops.toList.map (·.dst)) o) (nthD 0 (Region.before ops).toList fs.length) fs.length fs2.length fs2)
      then K (.pan x) ⟨unkT t, d, h'⟩ else none) (ops.toList.drop (fs.length + 1)) (footIdle o h :: fs) (setT t o.dst undefA) h
def regionK {ρ : Type} (env : Env) (call : Calling) (ops : Array Oper) (draw : Bool) (K : KC ρ) (s : St) : Option ρ :=
  runOps env call draw (ops.toList.map (·.dst)) (fun fs t h x h' => bif draw then panRest env call ops K s.d fs t h x h' else K (.pan x) ⟨t, s.d, h'⟩) (fun fs t h =>
    bif !draw || (backs 0 ops.toList && apartOps env (Region.before ops).toList.reverse fs.length fs) then K .normal ⟨t, s.d, h⟩ else none) ops.toList [] s.t s.h
def Code.fst : Code → Option Nat
  | .region id _ _ => some id
  | .seq a b => match Code.fst a with | some i => some i | none => Code.fst b
  | .cond _ a b => match Code.fst a with | some i => some i | none => Code.fst b
  | .block _ c => Code.fst c
  | .loop c => Code.fst c
  | .scope c => Code.fst c
  | _ => none
def keepT : Nat → List AV → List Nat → List AV
  | _, [], _ => []
  | i, v :: l, ks => (bif memN i ks then v else .unk) :: keepT (i + 1) l ks
def trim (ks : Option (List Nat)) (s : St) : St :=
  match ks with
  | none => s
  | some ks => ⟨keepT 0 s.t ks, s.d, ⟨s.h.next, pickE s.h.es (reach fuelR s.h.es (refss (keepT 0 s.t ks) ++ s.d) [])⟩⟩
def ren0 (σ : Nat → Option Nat) : AV → AV
  | .unk => .unk
  | .val v => .val v
  | .ro c cap => .ro c cap
  | .rptr c i j => .rptr c i j
  | .own id off len cap wd => (match σ id with | some j => .own j off len cap wd | none => .unk)
  | .ptr id r c => (match σ id with | some j => .ptr j r c | none => .unk)
  | .mp id => (match σ id with | some j => .mp j | none => .unk)
  | .rmp m => .rmp m
  | _ => .unk
def ren0s (σ : Nat → Option Nat) (l : List AV) : List AV := foldL [] (fun v _ ih => ren0 σ v :: ih) l
def renF (σ : Nat → Option Nat) : Fn → Option Fn
  | .yield l => (match σ l with | some j => some (.yield j) | none => none)
  | f => some f
def ren1 (σ : Nat → Option Nat) : AV → AV
  | .agg l => .agg (ren0s σ l)
  | .clo f a b => (match renF σ f with | some g => .clo g (ren0s σ a) (ren0s σ b) | none => .unk)
  | .ifc t v => .ifc t (ren0 σ v)
  | v => ren0 σ v
def ren1s (σ : Nat → Option Nat) (l : List AV) : List AV := foldL [] (fun v _ ih => ren1 σ v :: ih) l
def AV.ren (σ : Nat → Option Nat) : AV → AV
  | .pan v => .pan v
  | .tup l => .tup (ren1s σ l)
  | .clo f a b => (match renF σ f with | some g => .clo g (ren1s σ a) (ren1s σ b) | none => .unk)
  | .ifc t v => .ifc t (ren1 σ v)
  | v => ren1 σ v
def rens (σ : Nat → Option Nat) (l : List AV) : List AV := foldL [] (fun v _ ih => v.ren σ :: ih) l
def renRows (σ : Nat → Option Nat) (l : List (List AV)) : List (List AV) := foldL [] (fun r _ ih => ren1s σ r :: ih) l
def Con.ren (σ : Nat → Option Nat) : Con → Con
  | .ints k l => .ints k l
  | .rows p w l => .rows p w (renRows σ l)
  | .tab w n f => .tab w n fun i => ren1s σ (f i)
def renC (σ : Nat → Option Nat) (c : Con) : Con := bif c.pureF then c else c.ren σ
def ME.ren (σ : Nat → Option Nat) (e : ME) : ME := .mk e.key (ren1 σ e.val) e.born
def MC.ren (σ : Nat → Option Nat) : MC → MC
  | .ents l c => .ents (foldL [] (fun e _ ih => e.ren σ :: ih) l) c
  | .mtab n f c => .mtab n (fun i => (f i).ren σ) c
def renM (σ : Nat → Option Nat) (p : Bool) (m : MC) : MC := bif p then m else m.ren σ
def Blk.ren (σ : Nat → Option Nat) : Blk → Option Blk
  | .cells c => some (.cells (renC σ c))
  | .map p m => some (.map p (renM σ p m))
  | .iter pos l => some (.iter pos l)
  | .loop st pend t ps a b df => (match σ df with | some d => some (.loop st pend (rens σ t) ps a b d) | none => none)
  | .defd => some .defd
def posN (id : Nat) : List Nat → Option Nat
  | [] => none
  | a :: l => bif Nat.beq a id then some l.length else posN id l
def renIds (σ : Nat → Option Nat) : List Nat → Option (List Nat)
  | [] => some []
  | d :: ds => (match σ d, renIds σ ds with | some j, some l => some (j :: l) | _, _ => none)
def renE (σ : Nat → Option Nat) (es : List Ent) (id k : Nat) : Option Ent :=
  match findE es id, σ id with
  | some e, some j => bif Nat.beq j k then (match e.blk.ren σ with | some b => some ⟨k, 0, b⟩ | none => none) else none
  | _, _ => none
def renEs (σ : Nat → Option Nat) (es : List Ent) : List Nat → List Ent
  | [] => []
  | id :: m => (match renE σ es id m.length with
    | some e => e :: renEs σ es m
    | none => renEs σ es m)
def canonM (m : List Nat) (t : List AV) (s : St) : St :=
  match renIds (fun id => posN id m) s.d with
  | some d => ⟨rens (fun id => posN id m) t, d, ⟨m.length, renEs (fun id => posN id m) s.h.es m⟩⟩
  | none => s
def geL (p : Nat) (l : List Nat) : List Nat := foldL [] (fun a _ ih => bif Nat.ble p a then a :: ih else ih) l
def downTo (p : Nat) : List Nat := Nat.rec [] (fun k ih => k :: ih) p
def canonP (p : Nat) (ks : Option (List Nat)) (s : St) : St :=
  match ks with
  | none => s
  | some ks => canonM (geL p (reach fuelR s.h.es (refss (keepT 0 s.t ks) ++ (s.d ++ downTo p)) []) ++ downTo p) (keepT 0 s.t ks) s
def canon (ks : Option (List Nat)) (s : St) : St := canonP 0 ks s
structure Md where
  rt : Bool
  pins : Nat
  fz : Bool
def trimR (root : Md) (ks : Option (List Nat)) (s : St) : St := bif root.rt then canonP root.pins ks s else trim ks s
def loopK {ρ : Type} (tr : St → St) (body : KC ρ → St → Option ρ) (K : KC ρ) (n : Nat) : St → Option ρ :=
  Nat.rec (fun _ => none) (fun _ ih s => body (fun e s' => match e with
    | .normal => ih (tr s')
    | e => K e s') s) n
def setArgs : List Tmp → List AV → List AV → List AV
  | p :: ps, v :: vs, t => setArgs ps vs (setL t p v)
  | _, _, t => t
def axCode : AX → Option Code
  | .normal => none
  | .exit id => some (.exit id)
  | .ret => some .ret
  | .pan _ => none
def codeAX : Option Code → Option AX
  | none => some .normal
  | some (.exit id) => some (.exit id)
  | some .ret => some .ret
  | _ => none
def kpOf (kp : Nat → Option (List Nat)) (c : Code) : Option (List Nat) := match Code.fst c with | some i => kp i | none => none
def thenK {ρ : Type} (J : St → Option ρ) (K : KC ρ) : KC ρ := fun e s => match e with
  | .normal => J s
  | e => K e s
def blockK {ρ : Type} (id : Nat) (K : KC ρ) : KC ρ := fun e s => match e with
  | .exit i => bif Nat.beq i id then K .normal s else K (.exit i) s
  | e => K e s
def condV {ρ : Type} (v : AV) (a b : Option ρ) : Option ρ := match v with
  | .val (.bool x) => bif x then a else b
  | _ => none
def rangeEnd {ρ : Type} (l : Nat) (K : KC ρ) (s : St) : Option ρ :=
  match findE s.h.es l with
  | some ⟨_, _, .loop .busy _ _ _ _ _ _⟩ => none
  | some ⟨_, _, .loop _ pend _ _ _ _ _⟩ => (match codeAX pend with
    | some e => K e ⟨s.t, s.d, s.h.del l⟩
    | none => none)
  | _ => none
def funcClo : AV → Bool
  | .clo (.func _) _ _ => true
  | _ => false
def rangeK {ρ : Type} (s0 : Bool) (call : Calling) (f : AV) (ps : Array Tmp) (assign body : Code) (K : KC ρ) (s : St) : Option ρ :=
  bif !funcClo f then none else callOp s0 call f [.clo (.yield (s.h.next + 1)) [] []] ((s.h.add .defd).add (.loop .ready none s.t ps.toList assign body s.h.next)) (panK (fun _ _ => none) fun _ h2 _ _ =>
    rangeEnd (s.h.next + 1) K ⟨s.t, s.h.next :: s.d, h2⟩)
def codeK {ρ : Type} (env : Env) (call : Calling) (kp : Nat → Option (List Nat)) (root : Md) (round : Bool) (c : Code) : KC ρ → St → Option ρ :=
  Code.rec (motive := fun _ => KC ρ → St → Option ρ)
    (fun K s => K .normal s)
    (fun _ ops draw K s => regionK env call ops draw K s)
    (fun _ b iha ihb K s => iha (thenK (fun s' => ihb K (trimR root (kpOf kp b) s')) K) s)
    (fun c _ _ iha ihb K s => condV (ev s.t c) (iha K s) (ihb K s))
    (fun id _ ih K s => ih (blockK id K) s)
    (fun c ih K s => loopK (trimR root (kpOf kp c)) ih K env.rounds (trimR root (kpOf kp c) s))
    (fun f ps assign body _ _ K s => bif round then none else rangeK env.strict call (ev s.t f) ps assign body K s)
    (fun id K s => K (.exit id) s)
    (fun _ ih K s => ih K s)
    (fun _ K s => K .normal s)
    (fun _ _ _ => none)
    (fun K s => K .ret s)
    (fun _ _ _ => none) c
def loadRes (env : Env) (t : List AV) (h : Heap) : ResultVar → Option AV
  | .tmp i => some (getT t i)
  | .cell a ty => match env.ty.get ty, getT t a with
    | some i, .ptr id r c => (match h.con id with
      | some con => bif isFlat con c i.size then (bif Nat.ble (r + c + i.size) con.len then part i (spanA con i.size (r + c)) 0 else none)
        else bif Nat.blt r con.len && Nat.ble (c + i.size) con.wd then part i (con.row r) c else none
      | none => none)
    | _, _ => none
def loadAll (env : Env) (t : List AV) (h : Heap) : List ResultVar → Option (List AV)
  | [] => some []
  | r :: rs => match loadRes env t h r, loadAll env t h rs with
    | some v, some l => some (v :: l)
    | _, _ => none
def oneOrTup : List AV → AV
  | [v] => v
  | l => .tup l
def isDefd (h : Heap) (d : Nat) : Bool := match findE h.es d with | some ⟨_, _, .defd⟩ => true | _ => false
def closeMarks (h : Heap) : List Nat → Option Heap
  | [] => some h
  | d :: ds => bif isDefd h d then closeMarks (h.del d) ds else none
def leaveH {ρ : Type} (env : Env) (fn : Func) (K : AV → Heap → Option ρ) (t : List AV) (h : Heap) : Option ρ :=
  match loadAll env t h fn.results.toList with
  | some l => sAV env.strict (oneOrTup l) fun v => K v h
  | none => none
def leaveK {ρ : Type} (env : Env) (fn : Func) (K : AV → Heap → Option ρ) (s : St) : Option ρ :=
  match closeMarks s.h s.d with
  | some h => leaveH env fn K s.t h
  | none => none
def panE {ρ : Type} (K : AV → Heap → Option ρ) (x : Value) (s : St) : Option ρ := match s.d with
  | [] => K (.pan x) s.h
  | _ => none
def endK {ρ : Type} (env : Env) (fn : Func) (K : AV → Heap → Option ρ) : KC ρ := fun e s => match e with
  | .exit _ => none
  | .pan x => panE K x s
  | _ => leaveK env fn K s
def endN {ρ : Type} (env : Env) (fn : Func) (K : AV → Heap → Option ρ) : KC ρ := fun e s => match e with
  | .exit _ => none
  | .pan _ => none
  | _ => leaveK env fn K s
def startT (fn : Func) (a : List AV) : List AV := a ++ List.replicate (fn.ntmps - a.length) undefA
def enterK {ρ : Type} (env : Env) (call : Calling) (root : Md) (g : Nat) (args : List AV) (h : Heap) (K : AV → Heap → Option ρ) : Option ρ :=
  match env.fn.get g with
  | some fn => (match fn.body with
    | some c => sSp env.strict (startT fn args) fun t => codeK env call (env.keep g) root false c (endK env fn K) ⟨t, [], h⟩
    | none => none)
  | none => none
def isPanX : AX → Bool
  | .pan _ => true
  | _ => false
def roundEnd {ρ : Type} (l : Nat) (K : AV → Heap → Option ρ) (e : AX) (s : St) : Option ρ :=
  bif isPanX e then none else
  match findE s.h.es l with
  | some ⟨_, _, .loop .busy _ t ps assign body df⟩ =>
    K (.val (.bool (axCode e).isNone)) (s.h.put l (.loop (if (axCode e).isNone then .ready else .done) (axCode e) t ps assign body df))
  | _ => none
def noKeep (_ : Nat) : Option (List Nat) := none
def roundBody {ρ : Type} (env : Env) (call : Calling) (l : Nat) (body : Code) (K : AV → Heap → Option ρ) (s : St) : Option ρ :=
  match findE s.h.es l with
  | some ⟨_, _, .loop .ready pend t ps a b df⟩ => codeK env call noKeep ⟨false, 0, false⟩ true body (roundEnd l K) ⟨s.t, s.d, s.h.put l (.loop .busy pend t ps a b df)⟩
  | _ => none
def onlyK {ρ : Type} (J : St → Option ρ) : KC ρ := fun e s => match e with
  | .normal => J s
  | _ => none
def roundK {ρ : Type} (env : Env) (call : Calling) (l : Nat) (args : List AV) (h : Heap) (K : AV → Heap → Option ρ) : Option ρ :=
  match findE h.es l with
  | some ⟨_, _, .loop _ _ t ps assign body _⟩ =>
    bif Nat.beq ps.length args.length then
      codeK env call noKeep ⟨false, 0, false⟩ true assign (onlyK (roundBody env call l body K)) ⟨setArgs ps args t, [], h⟩
    else none
  | _ => none
def callStep (env : Env) (ih : Calling) : Calling := fun ρ f args h K =>
  match f with
  | .clo (.func g) first cap => (match env.sum g with
    | some A => A ρ (first ++ args ++ cap) h K
    | none => enterK env ih ⟨false, 0, false⟩ g (first ++ args ++ cap) h K)
  | .clo (.yield l) [] _ => roundK env ih l args h K
  | _ => none
def callF (env : Env) (d : Nat) : Calling := Nat.rec (fun _ _ _ _ _ => none) (fun _ ih => callStep env ih) d
end Go.Ev
