/- Frames: plain. -/
import Derived.Test.YtcmipliglcakdaaDoorLib
import Derived.Test.YtcmipliglcakdaaDoorPlainCrc
namespace Go.Proofs.YtcmipliglcakdaaDoor
open Go Go.RowKit Go.Lw
/-- A frame: its numbers, and its payload's bytes. -/
structure Frm where
  kind : Nat
  ses : Nat
  ep : Nat
  num : Nat
  ack : Nat
  mask : Nat
  p : List UInt8
structure Frm.ok (f : Frm) : Prop where
  k : f.kind < 256
  s : f.ses < 4294967296
  e : f.ep < 4294967296
  n : f.num < 4294967296
  a : f.ack < 4294967296
  m : f.mask < 4294967296
/-- A frame's value. -/
def Frm.cells (f : Frm) (v : Value) : List Value := [.int .u8 (f.kind : Int), .int .u32 (f.ses : Int), .int .u32 (f.ep : Int), .int .u32 (f.num : Int), .int .u32 (f.ack : Int), .int .u32 (f.mask : Int), v]
abbrev Frm.val (f : Frm) (v : Value) : Value := .agg #[.int .u8 (f.kind : Int), .int .u32 (f.ses : Int), .int .u32 (f.ep : Int), .int .u32 (f.num : Int), .int .u32 (f.ack : Int), .int .u32 (f.mask : Int), v]
/-- The document's frame's value: its kind is an int. -/
abbrev Frm.rval (f : Frm) (v : Value) : Value := .agg #[.int .i64 (f.kind : Int), .int .u32 (f.ses : Int), .int .u32 (f.ep : Int), .int .u32 (f.num : Int), .int .u32 (f.ack : Int), .int .u32 (f.mask : Int), v]
def Frm.may (f : Frm) : Bool :=
  decide (1 ≤ f.kind ∧ f.kind ≤ 5 ∧ f.p.length ≤ 256) && (if f.kind = 3 then decide (f.num < 2147483648) else if f.kind = 4 then decide (f.num = 0 ∧ f.p.length = 0) else decide (f.num = 0 ∧ f.ack = 0 ∧ f.mask = 0))
def Frm.head (f : Frm) : List UInt8 := lo f.kind :: (be 4 f.ses ++ (be 4 f.ep ++ (be 4 f.num ++ (be 4 f.ack ++ be 4 f.mask))))
def Frm.sgn (f : Frm) : List UInt8 := f.head ++ (be 2 f.p.length ++ f.p)
def Frm.body (f : Frm) (tag : Nat) : List UInt8 := f.sgn ++ be 8 tag
def Frm.enc (f : Frm) (tag : Nat) : List UInt8 := f.body tag ++ be 4 (crcN (f.body tag))
theorem Frm.sgn_len (f : Frm) : f.sgn.length = 23 + f.p.length := by
  simp [Frm.sgn, Frm.head, be_length]; omega
theorem Frm.enc_len (f : Frm) (tag : Nat) : (f.enc tag).length = 35 + f.p.length := by
  simp [Frm.enc, Frm.body, Frm.sgn_len, be_length]; omega
theorem may_len {f : Frm} (h : f.may = true) : f.p.length ≤ 256 := by
  unfold Frm.may at h
  simp only [Bool.and_eq_true, decide_eq_true_eq] at h
  exact h.1.2.2
end Go.Proofs.YtcmipliglcakdaaDoor
