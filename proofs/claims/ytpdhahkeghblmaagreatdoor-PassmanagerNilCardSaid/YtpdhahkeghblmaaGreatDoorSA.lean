/- TooLarge at any module: it returns a number: a symbolic run, by the kernel. -/
import Derived.Test.YtpdhahkeghblmaaGreatDoorSym3
import Derived.Test.YtpdhahkeghblmaaGreatDoorProg
import Derived.KernelRfl
namespace Go.Proofs.YtpdhahkeghblmaaGreatDoor
open Go Go.Shd Go.Sym
noncomputable section
/-- The slices' types: what the cells of an element hold, how many elements there are at most. -/
def kinds : List (Nat × List CK × Nat) := [
  (29, [.str, .int .i64, .int .i64, .sl 88, .bool], 2199023255552)
  ,(88, [.int .i64], 17592186044416)
  ,(30, [.str, .sl 41, .int .i64, .sl 43, .sl 44], 1466015503701)
  ,(41, [.int .i64], 17592186044416)
  ,(43, [.int .i64], 17592186044416)
  ,(44, [.sl 41, .sl 91, .int .i64, .sl 41, .sl 88, .sl 92, .int .i64], 1034834473200)
  ,(91, [.int .i64, .int .i64, .int .i64, .sl 41, .int .i64, .int .i64, .int .i64, .bool], 1759218604441)
  ,(92, [.int .i64, .sl 41], 4398046511104)
  ]
def KT : KTab := (.node none (.node none (.node none .leaf (.node none .leaf (.node none (.node (some ([.int .i64], 17592186044416)) .leaf .leaf) (.node none (.node (some ([.int .i64, .int .i64, .int .i64, .sl 41, .int .i64, .int .i64, .int .i64, .bool], 1759218604441)) .leaf .leaf) .leaf)))) (.node none (.node none .leaf (.node none (.node (some ([.int .i64], 17592186044416)) .leaf .leaf) .leaf)) (.node none .leaf (.node (some ([.str, .int .i64, .int .i64, .sl 88, .bool], 2199023255552)) .leaf .leaf)))) (.node none (.node none (.node none .leaf (.node none .leaf (.node none (.node (some ([.int .i64], 17592186044416)) .leaf .leaf) .leaf))) (.node none .leaf (.node none (.node (some ([.sl 41, .sl 91, .int .i64, .sl 41, .sl 88, .sl 92, .int .i64], 1034834473200)) .leaf .leaf) (.node none (.node (some ([.int .i64, .sl 41], 4398046511104)) .leaf .leaf) .leaf)))) (.node none .leaf (.node none .leaf (.node (some ([.str, .sl 41, .int .i64, .sl 43, .sl 44], 1466015503701)) .leaf .leaf)))))
/-- Each loop: its counter, its bound, what stays, what turns. -/
def hints : List (Nat × Nat × LoopHint) := [
  (14, 0, ⟨7, .cell 1 0, [1, 4, 5, 6], [3], [], []⟩)
  ,(14, 2, ⟨8, .cell 1 1, [1], [3, 4, 5, 6], [], []⟩)
  ,(14, 4, ⟨10, .cell 9 4, [1, 8, 9], [3, 4, 5, 6], [], []⟩)
  ,(14, 6, ⟨12, .cell 11 1, [1, 8, 9, 10, 11], [3, 4, 5, 6], [], []⟩)
  ,(14, 8, ⟨13, .cell 11 5, [1, 8, 9, 10, 11], [3, 4, 5, 6], [], []⟩)
  ,(15, 0, ⟨10, .cell 7 0, [1, 2, 3, 9], [], [3], []⟩)
  ,(32, 0, ⟨15, .cell 12 0, [1, 2, 14], [], [], []⟩)
  ,(32, 2, ⟨35, .cell 32 0, [1, 2, 34], [], [], []⟩)
  ,(33, 0, ⟨24, .tmp 22, [1, 2, 4, 5, 22, 23], [6], [], []⟩)
  ,(33, 2, ⟨53, .tmp 51, [1, 2, 4, 5, 51, 52], [], [], []⟩)
  ,(33, 4, ⟨82, .tmp 80, [1, 2, 4, 5, 9, 10, 51, 52, 53, 80, 81], [], [], []⟩)
  ,(61, 0, ⟨24, .tmp 22, [5, 22, 23], [], [], []⟩)
  ,(61, 2, ⟨64, .tmp 62, [5, 62, 63], [], [], []⟩)
  ,(62, 0, ⟨24, .tmp 22, [5, 22, 23], [], [], []⟩)
  ,(62, 2, ⟨56, .tmp 54, [5, 54, 55], [], [], []⟩)
  ,(63, 0, ⟨9, .tmp 7, [1, 2, 7, 8], [], [], []⟩)
  ,(64, 0, ⟨142, .tmp 140, [3, 4, 5, 140, 141], [], [], [(.tmp 140, .cell 4 3)]⟩)
  ,(64, 2, ⟨174, .tmp 172, [3, 4, 5, 172, 173], [], [], []⟩)
  ,(65, 0, ⟨54, .tmp 52, [3, 4, 5, 52, 53], [], [], [(.tmp 52, .cell 4 3)]⟩)
  ,(65, 2, ⟨99, .tmp 97, [4, 97, 98], [], [], []⟩)
  ,(129, 0, ⟨10, .tmp 8, [2, 3, 8, 9], [], [], []⟩)
  ,(130, 0, ⟨44, .tmp 42, [2, 5, 42, 43], [], [], []⟩)
  ,(235, 0, ⟨8, .tmp 0, [0, 1, 7], [], [], []⟩)
  ,(417, 0, ⟨1, .tmp 0, [0, 2], [], [], []⟩)
  ,(418, 0, ⟨8, .tmp 0, [0, 1, 7], [], [], []⟩)
  ]

def hintIn (f b : Nat) : List (Nat × Nat × LoopHint) → Option LoopHint
  | [] => none
  | (x, y, h) :: l => match Nat.beq f x with
    | true => match Nat.beq b y with
      | true => some h
      | false => hintIn f b l
    | false => hintIn f b l
def hint (f : FuncId) (b : Nat) : Option LoopHint := hintIn f b hints
def i64 : SV := .int .i64 (.int .i64 0)
def memF (f : Nat) : List Nat → Bool
  | [] => false
  | x :: l => match Nat.beq f x with
    | true => true
    | false => memF f l
/-- The functions that are looked into once: what they give. -/
def joined (f : FuncId) : Option SV := match memF f [15, 32, 33] with
  | true => some (.agg [i64, i64, i64, i64, i64])
  | false => match memF f [61, 62, 63, 64, 65, 129, 130, 417, 126, 239] with
    | true => some i64
    | false => match memF f [116, 233, 117, 118, 119, 123, 124, 128, 121, 241, 236, 237, 238] with
      | true => some (.bool .tt)
      | false => match Nat.beq f 125 with
        | true => some (.tup [i64, i64])
        | false => match Nat.beq f 240 with
          | true => some (.int .u64 (.int .u64 0))
          | false => none
def start0 : Sy := ⟨.leaf, .leaf, 0, 2, ⟨[], [], [], [], [], [], []⟩⟩
def isI64 (v : SV) (_ : Sy) : Bool := match v with
  | .int .i64 _ => true
  | _ => false
def isDiag (v : SV) (_ : Sy) : Bool := match v with
  | .agg [.int .i64 _, .int .i64 _, .int .i64 _, .int .i64 _, .int .i64 _] => true
  | _ => false
set_option maxRecDepth 1000000
theorem tooLarge_run : sTop Tryz.prog KT joined hint 2000 14 [.agg [.sl 29 (.v 0), .sl 30 (.v 1)]] start0 isI64 = true := by kernel_rfl
end
end Go.Proofs.YtpdhahkeghblmaaGreatDoor
