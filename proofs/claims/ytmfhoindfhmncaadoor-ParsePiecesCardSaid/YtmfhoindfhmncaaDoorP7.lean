/-
  Walks of layer 9: a directive.
-/
import Derived.Test.YtmfhoindfhmncaaDoorP6
import Derived.Deep.CutBlock
import Derived.Deep.Cut
import Derived.Great.BuildSlice
namespace Go.Proofs.YtmfhoindfhmncaaDoor
open Go.RowKit Go.Proofs

abbrev fl0 : PP.Fl := ⟨false, false, false, false, false⟩
abbrev nm0 : PP.Nm := ⟨0, 0, ⟨0, 0⟩⟩
abbrev ix0 : PP.Ix := ⟨0, 0⟩

/-- What holds within a directive: the reader at t, the piece's cells, the result's block untouched. -/
structure Ds (w : World) (R V P Q : Nat) (W : World) (t : ByteArray) (cs : Array Value) : Prop where
  rd : Rd W R V t
  below : Below w.heap.size w W
  p : Blk W P cs 40
  q : Blk W Q pc0 40
structure Dn (w : World) (R V P Q : Nat) : Prop where
  r : w.heap.size ≤ R
  v : w.heap.size ≤ V
  p : w.heap.size ≤ P
  q : w.heap.size ≤ Q
  rp : R ≠ P
  rq : R ≠ Q
  vp : V ≠ P
  vq : V ≠ Q
  pq : P ≠ Q
section
variable {w : World} {R V P Q : Nat} {W W' : World} {t t' : ByteArray} {cs : Array Value}
theorem Ds.moved (h : Ds w R V P Q W t cs) (n : Dn w R V P Q) (hr : Rd W' R V t') (ho : Only R W W') : Ds w R V P Q W' t' cs :=
  ⟨hr, h.below.trans (ho.below h.below.size n.r), h.p.same (ho.block _ h.p.lt n.rp.symm), h.q.same (ho.block _ h.q.lt n.rq.symm)⟩
theorem Ds.calm (h : Ds w R V P Q W t cs) (hb : Below W.heap.size W W') : Ds w R V P Q W' t cs :=
  ⟨h.rd.below hb, h.below.trans (hb.mono h.below.size), h.p.below hb h.p.lt, h.q.below hb h.q.lt⟩
theorem Ds.drew (h : Ds w R V P Q W t cs) : Ds w R V P Q W.drew t cs := ⟨h.rd.drew, h.below.drew, h.p, h.q⟩
theorem Ds.alloc (h : Ds w R V P Q W t cs) (o : Obj) : Ds w R V P Q (W.alloc o) t cs := ⟨h.rd.alloc o, h.below.alloc h.below.size o, h.p.alloc o, h.q.alloc o⟩
theorem Ds.set_ (h : Ds w R V P Q W t cs) (n : Dn w R V P Q) (i : Nat) (u : Value) : Ds w R V P Q (W.setCell ⟨P, i, none⟩ u) t (cs.setIfInBounds i u) :=
  ⟨h.rd.far n.rp n.vp u, h.below.setCell n.p u, h.p.set_ i u, h.q.far n.pq.symm u⟩
theorem Ds.put (h : Ds w R V P Q W t cs) (n : Dn w R V P Q) (u : ByteArray) : Ds w R V P Q (W.setCell ⟨R, 0, none⟩ (.string u)) u cs :=
  ⟨h.rd.put u, h.below.setCell n.r _, h.p.far n.rp.symm _, h.q.far n.rq.symm _⟩
end

end Go.Proofs.YtmfhoindfhmncaaDoor
