import Derived.Test.YtdjkglkcohknbaaVBase
import Derived.Test.YtdjkglkcohknbaaVWords
import Derived.Test.YtdjkglkcohknbaaVOwn
import Derived.Test.YtdjkglkcohknbaaVLoop
import Derived.Test.YtdjkglkcohknbaaVDeep
import Derived.Test.YtdjkglkcohknbaaVEq
import Derived.Test.YtdjkglkcohknbaaVCut
import Derived.Test.YtdjkglkcohknbaaVPlc
import Derived.Test.YtdjkglkcohknbaaPure2
set_option linter.unusedVariables false
namespace Go.V.M
def newWarp (p : List D.Ins) (n : Int) : D.Warp := ⟨n, if p.length > 0 then [⟨0, p.length, 255⟩] else [], List.replicate 32 0⟩
def noWarp : D.Warp := ⟨0, [], []⟩
def noBlock : D.Block := ⟨[], [], [], 0, 0⟩
def impl_newWarp := newWarp
def impl_newWarp_pre (p : List D.Ins) (n : Int) : Prop := True
def newBlock (p : List D.Ins) (c : Int) : D.Block := ⟨p, (List.range c.toNat).map fun k : Nat => newWarp p (k : Int), List.replicate 32 0, 0, 0⟩
def impl_newBlock := newBlock
def impl_newBlock_pre (p : List D.Ins) (c : Int) : Prop := p.length ≤ 17179869184 ∧ 0 ≤ c ∧ c ≤ 1000
def blockNew (p : List D.Ins) (c : Int) : D.Block × Bool := if programOk p && isIn c 1 3 then (newBlock p c, true) else (noBlock, false)
def impl_BlockNew := blockNew
def impl_BlockNew_pre (p : List D.Ins) (c : Int) : Prop := Long p
def slices_Clone_impl_Ins_impl_Ins (l : List D.Ins) : List D.Ins := l
def slices_Clone_impl_Ins_impl_Ins_pre (l : List D.Ins) : Prop := l.length ≤ 17179869184
def slices_Clone_impl_Frame_impl_Frame (l : List D.Frame) : List D.Frame := l
def slices_Clone_impl_Frame_impl_Frame_pre (l : List D.Frame) : Prop := l.length ≤ 17179869184
def WFit (x : D.Warp) : Prop := x.Frames.length ≤ 17179869184 ∧ x.Regs.length ≤ 17179869184
def BFit (b : D.Block) : Prop := b.Code.length ≤ 17179869184 ∧ (b.Warps.length ≤ 17179869184 ∧ ∀ x ∈ b.Warps, WFit x) ∧ b.Memory.length ≤ 17179869184
def impl_copyWarp (x : D.Warp) : D.Warp := x
def impl_copyWarp_pre (x : D.Warp) : Prop := WFit x
def impl_copyBlock (b : D.Block) : D.Block := b
def impl_copyBlock_pre (b : D.Block) : Prop := BFit b
def withMemory (b : D.Block) (m : List Int) : D.Block × Bool := if blockOk b && impl_isMemory m then (⟨b.Code, b.Warps, m, b.Waiting, b.Phase⟩, true) else (b, false)
def impl_WithMemory := withMemory
def impl_WithMemory_pre (b : D.Block) (m : List Int) : Prop := BFit b ∧ m.length ≤ 17179869184
end Go.V.M
set_option linter.unusedVariables false
namespace Go.V.M
def activeMask (x : D.Warp) : Int := if x.Frames.isEmpty then 0 else (lastF x.Frames).Mask
def bitAt (k : Int) : Int := IntKind.wrap .i64 (1 * 2 ^ (min (k.toNat) (IntKind.bits .i64)))
def zeroStep (x : D.Warp) (reg : Int) (m : Int) (k : Int) : Int := if rd x.Regs (k * 4 + reg) = 0 then bitOr .i64 m (bitAt k) else m
def zeroMask (x : D.Warp) (reg : Int) : Int := (lanesOf (activeMask x)).foldl (zeroStep x reg) 0
def Runs (p : List D.Ins) (x : D.Warp) : Prop := programOk p = true ∧ warpOf p x = true ∧ x.Frames ≠ []
def topPc (x : D.Warp) : Int := (lastF x.Frames).Pc
def topIns (p : List D.Ins) (x : D.Warp) : D.Ins := rd p (topPc x)
def splits (p : List D.Ins) (x : D.Warp) : Bool :=
  ((topIns p x).Op == 10 && (topIns p x).B != topPc x + 1) && (zeroMask x (topIns p x).A != 0 && zeroMask x (topIns p x).A != (lastF x.Frames).Mask)
def spec_l13Local (p : List D.Ins) (x : D.Warp) : Bool := !x.Frames.isEmpty && (isLocal (topIns p x) && (!splits p x || decide (x.Frames.length ≤ 22)))
def canGo (b : D.Block) (w : Int) : Bool :=
  let x := rd b.Warps w
  !x.Frames.isEmpty && (!waits b w && (if isLocal (topIns b.Code x) then !splits b.Code x || decide (x.Frames.length ≤ 22) else (topIns b.Code x).Op != 16 || x.Frames.length == 1))
def pickFrom (b : D.Block) (n f : Int) : Nat → Int → Int
  | 0, _ => -1
  | r + 1, k => if canGo b (Int.tmod (f + k) n) then Int.tmod (f + k) n else pickFrom b n f r (k + 1)
def pick (b : D.Block) (q : Int) : Int := pickFrom b b.Warps.length (Int.tmod q b.Warps.length) b.Warps.length 0
end Go.V.M
set_option linter.unusedVariables false
namespace Go.V.M
def idx (g : Int → Bool) : Nat → List Int
  | 0 => []
  | k + 1 => if g (k : Int) then idx g k ++ [(k : Int)] else idx g k
def isBr (p : List D.Ins) (k : Int) : Bool := (rd p k).Op == 10 && (rd p k).B != k + 1
def others (l : List Int) (n : Int) : List Int := l.filter fun x => x != n
def has (l : List Int) (n : Int) : Bool := l.any fun y => n == y
def nodeIn (p : List D.Ins) (k : Int) : Prop := 0 ≤ k ∧ k ≤ ((p.length : Nat) : Int)
def Node (p : List D.Ins) (k : Int) : Prop := programOk p = true ∧ nodeIn p k
def isNode (p : List D.Ins) (k : Int) : Bool := programOk p && isIn k 0 p.length
def putTwo (a b : Int) : List Int := if b < a then [b, a] else if b = a then [a] else [a, b]
def nextOf (p : List D.Ins) (k : Int) : List Int :=
  if k = p.length then [] else if (rd p k).Op = 12 then [((p.length : Nat) : Int)] else if (rd p k).Op = 11 then [(rd p k).B] else if (rd p k).Op = 10 then putTwo (k + 1) (rd p k).B else [k + 1]
def bfs (p : List D.Ins) (wo : Int) : Nat → List Int → List Bool → List Bool
  | 0, _, seen => seen
  | _ + 1, [], seen => seen
  | f + 1, k :: work, seen => if k = wo ∨ rd seen k = true then bfs p wo f work seen else bfs p wo f (work ++ nextOf p k) (seen.set k.toNat true)
def reached (p : List D.Ins) (frm : List Int) (wo : Int) : List Bool := bfs p wo (3 * (p.length + 1) + frm.length) frm (List.replicate (p.length + 1) false)
def exitB (p : List D.Ins) (k : Int) : Bool := rd (reached p [k] (-1)) p.length
def afterB (p : List D.Ins) (k later : Int) : Bool := !rd (reached p [k] later) p.length
def aftersOf (p : List D.Ins) (k : Int) : List Int := if isNode p k && exitB p k then idx (afterB p k) (p.length + 1) else []
def firstS (p : List D.Ins) (all : List Int) : List Int → Int
  | [] => -1
  | x :: l => if all.all (afterB p x) then x else firstS p all l
def firstAfter (p : List D.Ins) (k : Int) : Int := firstS p (others (aftersOf p k) k) (others (aftersOf p k) k)
def joinB (p : List D.Ins) (b : Int) : Int := if exitB p (b + 1) && exitB p (rd p b).B then firstAfter p b else p.length
def Branch (p : List D.Ins) (b : Int) : Prop := programOk p = true ∧ 0 ≤ b ∧ b < ((p.length : Nat) : Int) ∧ isBr p b = true
end Go.V.M
set_option linter.unusedVariables false
namespace Go.V.M
def dropN (fs : List D.Frame) (n : Int) : Nat → List D.Frame
  | 0 => []
  | k + 1 => if (rd fs (k : Int)).Pc ≠ (rd fs (k : Int)).Stop ∧ (rd fs (k : Int)).Pc ≠ n then fs.take (k + 1) else dropN fs n k
def dropF (fs : List D.Frame) (n : Int) : List D.Frame := dropN fs n fs.length
def dropW (x : D.Warp) (n : Int) : D.Warp := ⟨x.Number, dropF x.Frames n, x.Regs⟩
def laneCut (r : List Int) (l : Nat) : List Int := (r.take (l * 4 + 4)).drop (l * 4)
def putLane (r : List Int) (l : Nat) (x : List Int) : List Int := r.take (l * 4) ++ x ++ r.drop (l * 4 + 4)
def applyTo (i : D.Ins) (num m : Int) (r : List Int) : Nat → List Int
  | 0 => r
  | k + 1 => if hasLane m (k : Int) then putLane (applyTo i num m r k) k (apply i (num * 8 + (k : Int)) (laneCut r k)) else applyTo i num m r k
def applyAll (i : D.Ins) (num m : Int) (r : List Int) : List Int := applyTo i num m r 8
def turnPc (p : List D.Ins) (x : D.Warp) : Int :=
  if (topIns p x).Op = 12 then ((p.length : Nat) : Int) else if (topIns p x).Op = 11 then (topIns p x).B else if (topIns p x).Op = 10 ∧ zeroMask x (topIns p x).A = (lastF x.Frames).Mask then (topIns p x).B else topPc x + 1
def setTop (fs : List D.Frame) (pc : Int) : List D.Frame := fs.set (fs.length - 1) ⟨pc, (lastF fs).Stop, (lastF fs).Mask⟩
def advance (p : List D.Ins) (x : D.Warp) : D.Warp := ⟨x.Number, setTop x.Frames (turnPc p x), applyAll (topIns p x) x.Number (lastF x.Frames).Mask x.Regs⟩
def isSplit (p : List D.Ins) (x : D.Warp) : Prop := (topIns p x).Op = 10 ∧ (topIns p x).B ≠ topPc x + 1
def separated (p : List D.Ins) (x : D.Warp) : D.Warp :=
  ⟨x.Number, setTop x.Frames (joinB p (topPc x)) ++ [⟨topPc x + 1, joinB p (topPc x), bitNot .i64 (lastF x.Frames).Mask (zeroMask x (topIns p x).A)⟩, ⟨(topIns p x).B, joinB p (topPc x), zeroMask x (topIns p x).A⟩], x.Regs⟩
def stepW (p : List D.Ins) (x : D.Warp) : D.Warp := dropW (if splits p x then separated p x else advance p x) p.length
def Goes (p : List D.Ins) (x : D.Warp) : Prop := Runs p x ∧ spec_l13Local p x = true
def Fine (p : List D.Ins) (x : D.Warp) : Prop := programOk p = true ∧ warpOf p x = true
def runW (p : List D.Ins) : Nat → D.Warp → Int → D.Warp × Int
  | 0, x, n => (x, n)
  | k + 1, x, n => if spec_l13Local p x then runW p k (stepW p x) (n + 1) else (x, n)
def warpResult (p : List D.Ins) (w : Int) : D.Warp × Int × Bool :=
  if isQuiet p && isIn w 0 2 then (if (runW p 8000 (newWarp p w) 0).1.Frames.isEmpty then ((runW p 8000 (newWarp p w) 0).1, (runW p 8000 (newWarp p w) 0).2, true) else (noWarp, 0, false)) else (noWarp, 0, false)
def wAt (p : List D.Ins) (x : D.Warp) : Nat → D.Warp
  | 0 => x
  | k + 1 => stepW p (wAt p x k)
def countTo (m : Int) : Nat → Int
  | 0 => 0
  | k + 1 => if hasLane m (k : Int) then countTo m k + 1 else countTo m k
end Go.V.M
set_option linter.unusedVariables false
namespace Go.V.M
def once (c : D.Cur) (n : Int) : Bool × D.Cur := ((spec_l01Below c n).1 == 0, (spec_l01Below c n).2)
def spec_l01Once := once
def spec_l01Once_pre (c : D.Cur) (n : Int) : Prop := CurOk c
def setB (p : List D.Ins) (k : Nat) (v : Int) : List D.Ins := p.set k ⟨(rd p (k : Int)).Op, (rd p (k : Int)).A, v, (rd p (k : Int)).C⟩
def loopHead (p : List D.Ins) : List D.Ins := p ++ [(⟨8, 3, 0, 0⟩ : D.Ins)]
def loopAll (p : List D.Ins) : List D.Ins := ((loopHead p ++ [(⟨10, 3, 0, 0⟩ : D.Ins)]) ++ [(⟨3, 0, 0, 1⟩ : D.Ins), (⟨1, 2, 1, 0⟩ : D.Ins), (⟨4, 3, 3, 2⟩ : D.Ins)]) ++ [(⟨11, 0, (((loopHead p).length : Nat) : Int), 0⟩ : D.Ins)]
def countLoop (p : List D.Ins) : List D.Ins := setB (loopAll p) (loopHead p).length (((loopAll p).length : Nat) : Int)
def branchIn (rec : D.Cur → List D.Ins → List D.Ins × D.Cur) (c : D.Cur) (p : List D.Ins) : List D.Ins × D.Cur := rec (spec_l01Below c 4).2 (p ++ [⟨10, (spec_l01Below c 4).1, 0, 0⟩])
def elseIn (rec : D.Cur → List D.Ins → List D.Ins × D.Cur) (c : D.Cur) (p q : List D.Ins) : List D.Ins × D.Cur := rec c (setB (q ++ [⟨11, 0, 0, 0⟩]) p.length (((q ++ [(⟨11, 0, 0, 0⟩ : D.Ins)]).length : Nat) : Int))
def ifIn (rec : D.Cur → List D.Ins → List D.Ins × D.Cur) (c : D.Cur) (p : List D.Ins) : List D.Ins × D.Cur :=
  if (once (branchIn rec c p).2 2).1 then (setB (branchIn rec c p).1 p.length (((branchIn rec c p).1.length : Nat) : Int), (once (branchIn rec c p).2 2).2)
  else (setB (elseIn rec (once (branchIn rec c p).2 2).2 p (branchIn rec c p).1).1 (branchIn rec c p).1.length (((elseIn rec (once (branchIn rec c p).2 2).2 p (branchIn rec c p).1).1.length : Nat) : Int), (elseIn rec (once (branchIn rec c p).2 2).2 p (branchIn rec c p).1).2)
def bodyOne (rec : D.Cur → List D.Ins → List D.Ins × D.Cur) (deep : Bool) (c : D.Cur) (p : List D.Ins) : List D.Ins × D.Cur :=
  if (spec_l01Below c 5).1 = 0 then (if deep then ifIn rec (spec_l01Below c 5).2 p else (p, (spec_l01Below c 5).2))
  else if (spec_l01Below c 5).1 = 1 then (if deep ∧ ¬ ((p.length : Nat) : Int) > 14 then (countLoop p, (spec_l01Below c 5).2) else (p, (spec_l01Below c 5).2))
  else (p ++ [(spec_l04Plain (spec_l01Below c 5).2).1], (spec_l04Plain (spec_l01Below c 5).2).2)
def bodyN (rec : D.Cur → List D.Ins → List D.Ins × D.Cur) (deep : Bool) : Nat → D.Cur → List D.Ins → List D.Ins × D.Cur
  | 0, c, p => (p, c)
  | n + 1, c, p => if ((p.length : Nat) : Int) < 20 then bodyN rec deep n (bodyOne rec deep c p).2 (bodyOne rec deep c p).1 else (p, c)
def body : Nat → D.Cur → List D.Ins → List D.Ins × D.Cur
  | 0, c, p => bodyN (fun c p => (p, c)) false (spec_l01Below c 4).1.toNat (spec_l01Below c 4).2 p
  | d + 1, c, p => bodyN (body d) true (spec_l01Below c 4).1.toNat (spec_l01Below c 4).2 p
def spec_l05Body (c : D.Cur) (p : List D.Ins) (d : Int) : List D.Ins × D.Cur := body d.toNat c p
def spec_l05Body_pre (c : D.Cur) (p : List D.Ins) (d : Int) : Prop := CurOk c ∧ p.length ≤ 24 ∧ 0 ≤ d ∧ d ≤ 2
end Go.V.M
set_option linter.unusedVariables false
namespace Go.V.M
def spec_l04Memory (c : D.Cur) : D.Ins × D.Cur :=
  (⟨(spec_l01PickInt c [13, 14, 15]).1, (spec_l01Below (spec_l01PickInt c [13, 14, 15]).2 4).1, (spec_l01Below (spec_l01Below (spec_l01PickInt c [13, 14, 15]).2 4).2 4).1, 0⟩, (spec_l01Below (spec_l01Below (spec_l01PickInt c [13, 14, 15]).2 4).2 4).2)
def spec_l04Memory_pre (c : D.Cur) : Prop := CurOk c
def progStore (c : D.Cur) : List D.Ins × D.Cur := ([⟨8, 0, 0, 0⟩, ⟨14, 0, (spec_l01Below c 4).1, 0⟩], (spec_l01Below c 4).2)
def progLoad (c : D.Cur) : List D.Ins × D.Cur := ([⟨1, 1, (spec_l01PickInt c [1, 8, 31]).1, 0⟩, ⟨8, 0, 0, 0⟩, ⟨3, 0, 0, 1⟩, ⟨13, 2, 0, 0⟩], (spec_l01PickInt c [1, 8, 31]).2)
def progBump (c : D.Cur) : List D.Ins × D.Cur := ([⟨1, 1, 24 + (spec_l01Below c 8).1, 0⟩, ⟨15, 1, (spec_l01Below (spec_l01Below c 8).2 4).1, 0⟩], (spec_l01Below (spec_l01Below c 8).2 4).2)
def progOne (c : D.Cur) (p : List D.Ins) : List D.Ins × D.Cur :=
  if (spec_l01Below c 7).1 = 0 then (p ++ [⟨16, 0, 0, 0⟩], (spec_l01Below c 7).2)
  else if (spec_l01Below c 7).1 = 1 then (p ++ (progStore (spec_l01Below c 7).2).1, (progStore (spec_l01Below c 7).2).2)
  else if (spec_l01Below c 7).1 = 2 then (p ++ (progLoad (spec_l01Below c 7).2).1, (progLoad (spec_l01Below c 7).2).2)
  else if (spec_l01Below c 7).1 = 3 then (p ++ (progBump (spec_l01Below c 7).2).1, (progBump (spec_l01Below c 7).2).2)
  else if (spec_l01Below c 7).1 = 4 then (if ((p.length : Nat) : Int) < 12 then body 1 (spec_l01Below c 7).2 p else (p, (spec_l01Below c 7).2))
  else if (spec_l01Below c 7).1 = 5 then (p ++ [(spec_l04Memory (spec_l01Below c 7).2).1], (spec_l04Memory (spec_l01Below c 7).2).2)
  else (p ++ [(spec_l04Plain (spec_l01Below c 7).2).1], (spec_l04Plain (spec_l01Below c 7).2).2)
def progN : Nat → D.Cur → List D.Ins → List D.Ins × D.Cur
  | 0, c, p => (p, c)
  | n + 1, c, p => if ((p.length : Nat) : Int) + 4 ≤ 32 then progN n (progOne c p).2 (progOne c p).1 else (p, c)
def spec_l29Program (c : D.Cur) : List D.Ins × D.Cur := progN (1 + (spec_l01Below c 5).1).toNat (spec_l01Below c 5).2 [⟨8, 0, 0, 0⟩]
def spec_l29Program_pre (c : D.Cur) : Prop := CurOk c
def spec_DrawProgram (b : List Int) : List D.Ins := (spec_l29Program (spec_l01New b)).1
def spec_DrawProgram_pre (b : List Int) : Prop := Long b
def laws_FnNewBlocks (b : List Int) : Bool := true
def laws_FnNewBlocks_pre (b : List Int) : Prop := Long b
end Go.V.M
set_option linter.unusedVariables false
namespace Go.V
def wp.impl_within (x0 : Int) (x1 : Int) (x2 : Int) (Q : Bool → Prop) : Prop :=
  bcase (decide (x0 ≥ x1)) (Q (decide (x0 ≤ x2))) (Q false)
def wp.impl_IsWord (x0 : Int) (Q : Bool → Prop) : Prop :=
  (∀ r21, r21 = M.impl_within x0 0 65535 → Q r21)
def wp.impl_IsMask (x0 : Int) (Q : Bool → Prop) : Prop :=
  (∀ r21, r21 = M.impl_within x0 0 255 → Q r21)
end Go.V
set_option linter.unusedVariables false
set_option linter.unusedSimpArgs false
namespace Go.V
theorem wp.impl_within.math (x a b : Int) : wp.impl_within x a b (fun r => r = M.impl_within x a b) := by
  simp only [wp.impl_within, bcase_iff, M.impl_within, M.isIn]
  exact ⟨fun h => by simp at h; simp [h], fun h => by simp at h; simp; omega⟩
theorem wp.impl_IsWord.math (x : Int) : wp.impl_IsWord x (fun r => r = M.impl_IsWord x) := fun r h => h
theorem wp.impl_IsMask.math (x : Int) : wp.impl_IsMask x (fun r => r = M.impl_IsMask x) := fun r h => h
end Go.V
set_option linter.unusedVariables false
namespace Go.V
def wp.slices_IndexFunc_int_int (xs0 : List Int) (g1 : Int → Bool) (D1 : Int → Prop) (Q : Int → Prop) : Prop :=
  LoopP (σ := Int × Unit) (fun (p42 : Int × Unit) next25 => match p42 with | (i21, _) => bcase (decide (i21 < ((xs0.length : Nat) : Int))) (((0 ≤ i21 ∧ i21 < ((xs0.length : Nat) : Int)) ∧ (D1 (rd xs0 i21) ∧ ∀ r32, r32 = g1 (rd xs0 i21) → bcase r32 (Q i21) (next25 ((IntKind.wrap .i64 (i21 + 1)), ()))))) (Q (-1))) (0, ())
def wp.slices_ContainsFunc_int_int (xs0 : List Int) (g1 : Int → Bool) (D1 : Int → Prop) (Q : Bool → Prop) : Prop :=
  (M.slices_IndexFunc_int_int_pre xs0 g1 D1 ∧ ∀ r21, r21 = M.slices_IndexFunc_int_int xs0 g1 → Q (decide (r21 ≥ 0)))
def wp.impl_AreWords_1 (x0 : Int) (Q : Bool → Prop) : Prop :=
  (∀ r21, r21 = M.impl_IsWord x0 → Q (!r21))
def wp.impl_AreWords (xs0 : List Int) (Q : Bool → Prop) : Prop :=
  (M.slices_ContainsFunc_int_int_pre xs0 (fun z0_ => M.impl_AreWords_1 z0_) (fun _ => True) ∧ ∀ r21, r21 = M.slices_ContainsFunc_int_int xs0 (fun z0_ => M.impl_AreWords_1 z0_) → Q (!r21))
end Go.V
set_option linter.unusedVariables false
set_option linter.unusedSimpArgs false
namespace Go.V
theorem isWord_iff {x : Int} : M.isWord x = true ↔ 0 ≤ x ∧ x ≤ 65535 := by simp [M.isWord, M.isIn]
theorem rd_mem {α : Type} [Inhabited α] {xs : List α} {k : Nat} (h : k < xs.length) : rd xs (k : Int) ∈ xs := by rw [rd_nat h]; exact List.getElem_mem h
theorem nt {r x : Bool} (e : (!r) = true) (h : r = x) : x = false := by subst h; simpa using e
theorem nf {r x : Bool} (e : (!r) = false) (h : r = x) : x = true := by subst h; simpa using e
theorem firstIx_from {α : Type} [Inhabited α] (g : α → Bool) (l : List α) : ∀ (k : Nat), k < l.length → M.firstIx g (l.drop k) k = if g (rd l (k : Int)) then (k : Int) else M.firstIx g (l.drop (k + 1)) (k + 1) := by
  intro k hk
  rw [List.drop_eq_getElem_cons hk, rd_nat hk]; rfl
theorem wp.slices_IndexFunc_int_int.math (l : List Int) (g : Int → Bool) (D : Int → Prop) (h : M.slices_IndexFunc_int_int_pre l g D) : wp.slices_IndexFunc_int_int l g D (fun r => r = M.slices_IndexFunc_int_int l g) := by
  unfold wp.slices_IndexFunc_int_int
  obtain ⟨h1, h2⟩ := h
  refine loop_n l.length (fun k => ((k : Int), ())) (fun k => M.slices_IndexFunc_int_int l g = M.firstIx g (l.drop k) k) rfl (by simp [M.slices_IndexFunc_int_int]) (fun k hk hF next hn => ?_) fun hF next => ?_
  · rw [firstIx_from g l k hk] at hF
    refine bcase_t (by simp; omega) ⟨by omega, h2 _ (rd_mem hk), fun r hr => bcase_mk (fun e => ?_) fun e => ?_⟩
    · rw [hF, if_pos (by rw [← hr]; exact e)]
    · rw [up64 hk h1]
      exact hn (by rw [hF, if_neg (by rw [← hr, e]; simp)])
  · refine bcase_f (by simp) ?_
    rw [hF]; simp [M.firstIx]
theorem firstIx_nonneg {α : Type} (g : α → Bool) : ∀ (l : List α) (k : Nat), decide (M.firstIx g l k ≥ 0) = l.any g
  | [], k => by simp [M.firstIx]
  | x :: l, k => by
    simp only [M.firstIx, List.any_cons]
    by_cases hx : g x = true
    · simp [hx]
    · simp only [hx, Bool.false_eq_true, if_false, Bool.false_or]; simpa [hx] using firstIx_nonneg g l (k + 1)
theorem wp.slices_ContainsFunc_int_int.math (l : List Int) (g : Int → Bool) (D : Int → Prop) (h : M.slices_ContainsFunc_int_int_pre l g D) : wp.slices_ContainsFunc_int_int l g D (fun r => r = M.slices_ContainsFunc_int_int l g) :=
  ⟨h, fun r hr => by rw [hr]; exact firstIx_nonneg g l 0⟩
theorem wp.impl_AreWords_1.math (x : Int) : wp.impl_AreWords_1 x (fun r => r = M.impl_AreWords_1 x) := fun r hr => by rw [hr]; rfl
theorem wp.impl_AreWords.math (l : List Int) (h : M.impl_AreWords_pre l) : wp.impl_AreWords l (fun r => r = M.impl_AreWords l) := by
  refine ⟨⟨h, fun _ _ => trivial⟩, fun r hr => ?_⟩
  rw [hr]
  simp only [M.slices_ContainsFunc_int_int, M.impl_AreWords, M.impl_AreWords_1]
  rw [← List.all_eq_not_any_not]
theorem isWord_mod (x : Int) : M.isWord (x % 65536) = true := isWord_iff.2 ⟨by omega, by omega⟩
end Go.V
set_option linter.unusedVariables false
namespace Go.V
def wp.slices_Clone_int_int (xs0 : List Int) (Q : (List Int) → Prop) : Prop :=
  (∀ b21 : Bool, (b21 = true → xs0 = []) → bcase b21 (Q ([] : List Int)) (((([] : List Int).length + xs0.length ≤ 17179869184) ∧ Q (([] : List Int) ++ xs0))))
def wp.impl_formOf (x0 : Int) (Q : ByteArray → Prop) : Prop :=
  (∀ r21, r21 = M.impl_within x0 0 16 → bcase (!r21) (Q (⟨#[]⟩)) (((0 ≤ x0 ∧ x0 < ((([⟨#[45, 45, 45]⟩, ⟨#[82, 87, 45]⟩, ⟨#[82, 82, 45]⟩, ⟨#[82, 82, 82]⟩, ⟨#[82, 82, 82]⟩, ⟨#[82, 82, 82]⟩, ⟨#[82, 82, 82]⟩, ⟨#[82, 82, 82]⟩, ⟨#[82, 45, 45]⟩, ⟨#[82, 82, 82]⟩, ⟨#[82, 84, 45]⟩, ⟨#[45, 84, 45]⟩, ⟨#[45, 45, 45]⟩, ⟨#[82, 82, 45]⟩, ⟨#[82, 82, 45]⟩, ⟨#[82, 82, 45]⟩, ⟨#[45, 45, 45]⟩] : List ByteArray).length : Nat) : Int)) ∧ Q (rd ([⟨#[45, 45, 45]⟩, ⟨#[82, 87, 45]⟩, ⟨#[82, 82, 45]⟩, ⟨#[82, 82, 82]⟩, ⟨#[82, 82, 82]⟩, ⟨#[82, 82, 82]⟩, ⟨#[82, 82, 82]⟩, ⟨#[82, 82, 82]⟩, ⟨#[82, 45, 45]⟩, ⟨#[82, 82, 82]⟩, ⟨#[82, 84, 45]⟩, ⟨#[45, 84, 45]⟩, ⟨#[45, 45, 45]⟩, ⟨#[82, 82, 45]⟩, ⟨#[82, 82, 45]⟩, ⟨#[82, 82, 45]⟩, ⟨#[45, 45, 45]⟩] : List ByteArray) x0))))
def wp.impl_isReg (x0 : Int) (Q : Bool → Prop) : Prop :=
  (∀ r21, r21 = M.impl_within x0 0 3 → Q r21)
def wp.impl_isField (x0 : Int) (x1 : Int) (x2 : Int) (Q : Bool → Prop) : Prop :=
  bcase (x0 == 82) ((∀ r21, r21 = M.impl_isReg x1 → Q r21)) (bcase (x0 == 87) ((∀ r26, r26 = M.impl_IsWord x1 → Q r26)) (bcase (x0 == 84) ((∀ r31, r31 = M.impl_within x1 0 x2 → Q r31)) (Q (x1 == 0))))
def wp.impl_InsOk (s0 : D.Ins) (x1 : Int) (Q : Bool → Prop) : Prop :=
  (∀ r23, r23 = M.impl_formOf s0.Op → bcase (!(ByteArray.toList r23 == ByteArray.toList (⟨#[]⟩))) ((∀ r28, r28 = M.impl_within x1 0 32 → bcase r28 (((0 ≤ (0 : Int) ∧ (0 : Int) < ((ByteArray.size r23 : Nat) : Int)) ∧ (M.impl_isField_pre (bt r23 0) s0.A x1 ∧ ∀ r38, r38 = M.impl_isField (bt r23 0) s0.A x1 → bcase r38 (((0 ≤ (1 : Int) ∧ (1 : Int) < ((ByteArray.size r23 : Nat) : Int)) ∧ (M.impl_isField_pre (bt r23 1) s0.B x1 ∧ ∀ r48, r48 = M.impl_isField (bt r23 1) s0.B x1 → bcase r48 (((0 ≤ (2 : Int) ∧ (2 : Int) < ((ByteArray.size r23 : Nat) : Int)) ∧ (M.impl_isField_pre (bt r23 2) s0.C x1 ∧ ∀ r58, r58 = M.impl_isField (bt r23 2) s0.C x1 → Q r58))) (Q false)))) (Q false)))) (Q false))) (Q false))
def wp.impl_ProgramOk_1 (s0 : D.Ins) (xs1 : List D.Ins) (Q : Bool → Prop) : Prop :=
  (∀ r23, r23 = M.impl_InsOk s0 ((xs1.length : Nat) : Int) → Q (!r23))
def wp.slices_IndexFunc_impl_Ins_impl_Ins (xs0 : List D.Ins) (g1 : D.Ins → Bool) (D1 : D.Ins → Prop) (Q : Int → Prop) : Prop :=
  LoopP (σ := Int × Unit) (fun (p42 : Int × Unit) next25 => match p42 with | (i21, _) => bcase (decide (i21 < ((xs0.length : Nat) : Int))) (((0 ≤ i21 ∧ i21 < ((xs0.length : Nat) : Int)) ∧ (D1 (rd xs0 i21) ∧ ∀ r32, r32 = g1 (rd xs0 i21) → bcase r32 (Q i21) (next25 ((IntKind.wrap .i64 (i21 + 1)), ()))))) (Q (-1))) (0, ())
def wp.slices_ContainsFunc_impl_Ins_impl_Ins (xs0 : List D.Ins) (g1 : D.Ins → Bool) (D1 : D.Ins → Prop) (Q : Bool → Prop) : Prop :=
  (M.slices_IndexFunc_impl_Ins_impl_Ins_pre xs0 g1 D1 ∧ ∀ r21, r21 = M.slices_IndexFunc_impl_Ins_impl_Ins xs0 g1 → Q (decide (r21 ≥ 0)))
def wp.impl_ProgramOk (xs0 : List D.Ins) (Q : Bool → Prop) : Prop :=
  bcase (decide (((xs0.length : Nat) : Int) ≤ 32)) ((M.slices_ContainsFunc_impl_Ins_impl_Ins_pre xs0 (fun z0_ => M.impl_ProgramOk_1 z0_ xs0) (fun _ => True) ∧ ∀ r23, r23 = M.slices_ContainsFunc_impl_Ins_impl_Ins xs0 (fun z0_ => M.impl_ProgramOk_1 z0_ xs0) → Q (!r23))) (Q false)
end Go.V
set_option linter.unusedVariables false
set_option linter.unusedSimpArgs false
namespace Go.V
theorem wp.slices_Clone_int_int.math (l : List Int) (h : M.slices_Clone_int_int_pre l) : wp.slices_Clone_int_int l (fun r => r = M.slices_Clone_int_int l) := by
  intro b hb
  refine bcase_mk (fun e => ?_) fun e => ⟨by simpa [M.slices_Clone_int_int_pre] using h, rfl⟩
  rw [hb e]; rfl
theorem wp.impl_isReg.math (x : Int) : wp.impl_isReg x (fun r => r = M.impl_isReg x) := fun r hr => hr
theorem all_loop {α : Type} [Inhabited α] {l : List α} {g : α → Bool} (hl : M.Long l) {B : (Int × Unit) → ((Int × Unit) → Prop) → Prop} {Q : Bool → Prop}
    (hb : ∀ (k : Nat) (next : (Int × Unit) → Prop), k < l.length → (g (rd l (k : Int)) = false → l.all g = false → Q false) → (g (rd l (k : Int)) = true → next (((k + 1 : Nat) : Int), ())) → B ((k : Int), ()) next)
    (he : ∀ (next : (Int × Unit) → Prop), l.all g = true → B ((l.length : Int), ()) next) (hQ : l.all g = false → Q false) : LoopP B (0, ()) := by
  refine loop_n l.length (fun k => ((k : Int), ())) (fun k => (l.take k).all g = true) rfl (by simp) (fun k hk hF next hn => ?_) fun hF next => ?_
  · refine hb k next hk (fun e h => hQ h) fun e => ?_
    rw [rd_nat hk] at e
    exact hn (take_all_succ hk hF e)
  · rw [List.take_length] at hF
    exact he next hF
theorem all_false {α : Type} [Inhabited α] {l : List α} {g : α → Bool} {k : Nat} (hk : k < l.length) (e : g (rd l (k : Int)) = false) : l.all g = false := by
  rw [rd_nat hk] at e; exact all_at hk e
theorem wp.impl_formOf.math (op : Int) : wp.impl_formOf op (fun r => r = M.impl_formOf op) := by
  intro r hr
  refine bcase_mk (fun e => ?_) fun e => ?_
  · have : M.isIn op 0 16 = false := nt e hr
    have h' : ¬ (0 ≤ op ∧ op ≤ 16) := by simpa [M.isIn] using this
    have h2 : M.isIn op 3 9 = false := by simp [M.isIn]; omega
    simp only [M.impl_formOf, M.formOf, h2]
    rw [if_neg (by omega), if_neg (by omega), if_neg (by omega), if_neg (by omega), if_neg (by omega), if_neg (by omega)]
    rfl
  · have : M.isIn op 0 16 = true := nf e hr
    have h' : 0 ≤ op ∧ op ≤ 16 := by simpa [M.isIn] using this
    refine ⟨by simp; omega, ?_⟩
    have : op = 0 ∨ op = 1 ∨ op = 2 ∨ op = 3 ∨ op = 4 ∨ op = 5 ∨ op = 6 ∨ op = 7 ∨ op = 8 ∨ op = 9 ∨ op = 10 ∨ op = 11 ∨ op = 12 ∨ op = 13 ∨ op = 14 ∨ op = 15 ∨ op = 16 := by omega
    rcases this with rfl | rfl | rfl | rfl | rfl | rfl | rfl | rfl | rfl | rfl | rfl | rfl | rfl | rfl | rfl | rfl | rfl <;> rfl
theorem wp.impl_isField.math (f x n : Int) (h : M.impl_isField_pre f x n) : wp.impl_isField f x n (fun r => r = M.impl_isField f x n) := by
  refine bcase_mk (fun e r hr => ?_) fun e1 => bcase_mk (fun e r hr => ?_) fun e2 => bcase_mk (fun e r hr => ?_) fun e3 => ?_
  · simp at e; simp [M.impl_isField, e, hr, M.impl_isReg]
  · simp at e; simp [M.impl_isField, e, hr, M.impl_IsWord]
  · simp at e; simp [M.impl_isField, e, hr, M.impl_within]
  · simp at e1 e2 e3; simp [M.impl_isField, e1, e2, e3]
theorem str_ne {a b : ByteArray} (h : ByteArray.toList a ≠ ByteArray.toList b) : (!(ByteArray.toList a == ByteArray.toList b)) = true := by simp [h]
theorem formOf_cases (op : Int) : (M.formOf op = ⟨#[45, 45, 45]⟩ ∧ (op = 0 ∨ op = 12 ∨ op = 16)) ∨ (M.formOf op = ⟨#[82, 87, 45]⟩ ∧ op = 1) ∨ (M.formOf op = ⟨#[82, 82, 45]⟩ ∧ (op = 2 ∨ op = 13 ∨ op = 14 ∨ op = 15)) ∨
    (M.formOf op = ⟨#[82, 45, 45]⟩ ∧ op = 8) ∨ (M.formOf op = ⟨#[82, 84, 45]⟩ ∧ op = 10) ∨ (M.formOf op = ⟨#[45, 84, 45]⟩ ∧ op = 11) ∨ (M.formOf op = ⟨#[82, 82, 82]⟩ ∧ (3 ≤ op ∧ op ≤ 7 ∨ op = 9)) ∨
    (M.formOf op = ⟨#[]⟩ ∧ (op < 0 ∨ op > 16)) := by
  unfold M.formOf
  by_cases a1 : op = 0 ∨ op = 12 ∨ op = 16
  · rw [if_pos a1]; exact .inl ⟨rfl, a1⟩
  rw [if_neg a1]
  by_cases a2 : op = 1
  · rw [if_pos a2]; exact .inr (.inl ⟨rfl, a2⟩)
  rw [if_neg a2]
  by_cases a3 : op = 2 ∨ op = 13 ∨ op = 14 ∨ op = 15
  · rw [if_pos a3]; exact .inr (.inr (.inl ⟨rfl, a3⟩))
  rw [if_neg a3]
  by_cases a4 : op = 8
  · rw [if_pos a4]; exact .inr (.inr (.inr (.inl ⟨rfl, a4⟩)))
  rw [if_neg a4]
  by_cases a5 : op = 10
  · rw [if_pos a5]; exact .inr (.inr (.inr (.inr (.inl ⟨rfl, a5⟩))))
  rw [if_neg a5]
  by_cases a6 : op = 11
  · rw [if_pos a6]; exact .inr (.inr (.inr (.inr (.inr (.inl ⟨rfl, a6⟩)))))
  rw [if_neg a6]
  by_cases a7 : 3 ≤ op ∧ op ≤ 9
  · rw [if_pos (by simp [M.isIn]; omega)]; exact .inr (.inr (.inr (.inr (.inr (.inr (.inl ⟨rfl, by omega⟩))))))
  rw [if_neg (by simp [M.isIn]; omega)]; exact .inr (.inr (.inr (.inr (.inr (.inr (.inr ⟨rfl, by omega⟩))))))
theorem ins_core {i : D.Ins} {n : Int} {f : ByteArray} {x y z : Int} (hx : bt f 0 = x) (hy : bt f 1 = y) (hz : bt f 2 = z) (hs : f.size = 3) (hf : ByteArray.toList f ≠ ByteArray.toList (⟨#[]⟩)) {P : Bool → Prop} (hin : M.isIn n 0 32 = false → P false)
    (h : M.isIn n 0 32 = true → P (M.impl_isField x i.A n && (M.impl_isField y i.B n && M.impl_isField z i.C n))) :
    bcase (!(ByteArray.toList f == ByteArray.toList (⟨#[]⟩))) ((∀ r28, r28 = M.impl_within n 0 32 → bcase r28 (((0 ≤ (0 : Int) ∧ (0 : Int) < ((ByteArray.size f : Nat) : Int)) ∧ (M.impl_isField_pre (bt f 0) i.A n ∧ ∀ r38, r38 = M.impl_isField (bt f 0) i.A n → bcase r38 (((0 ≤ (1 : Int) ∧ (1 : Int) < ((ByteArray.size f : Nat) : Int)) ∧ (M.impl_isField_pre (bt f 1) i.B n ∧ ∀ r48, r48 = M.impl_isField (bt f 1) i.B n → bcase r48 (((0 ≤ (2 : Int) ∧ (2 : Int) < ((ByteArray.size f : Nat) : Int)) ∧ (M.impl_isField_pre (bt f 2) i.C n ∧ ∀ r58, r58 = M.impl_isField (bt f 2) i.C n → P r58))) (P false)))) (P false)))) (P false))) (P false) := by
  refine bcase_t (str_ne hf) fun r1 h1 => bcase_mk (fun e1 => ⟨by omega, trivial, fun r2 h2 => bcase_mk (fun e2 => ⟨by omega, trivial, fun r3 h3 => bcase_mk (fun e3 => ⟨by omega, trivial, fun r4 h4 => ?_⟩) fun e3 => ?_⟩) fun e2 => ?_⟩) fun e1 => hin (h1.symm.trans e1)
  all_goals have hh := h (h1.symm.trans e1)
  · rw [hx] at h2; rw [hy] at h3; rw [hz] at h4
    rw [← h2, ← h3, ← h4, e2, e3] at hh; exact hh
  · rw [hx] at h2; rw [hy] at h3
    rw [← h2, ← h3, e2, e3] at hh; exact hh
  · rw [hx] at h2
    rw [← h2, e2] at hh; exact hh
theorem wp.impl_InsOk.math (i : D.Ins) (n : Int) : wp.impl_InsOk i n (fun r => r = M.impl_InsOk i n) := by
  intro r hr
  have hr' : r = M.formOf i.Op := hr
  rcases formOf_cases i.Op with ⟨e, h⟩ | ⟨e, h⟩ | ⟨e, h⟩ | ⟨e, h⟩ | ⟨e, h⟩ | ⟨e, h⟩ | ⟨e, h⟩ | ⟨e, h⟩
  case inr.inr.inr.inr.inr.inr.inr =>
    rw [hr', e]
    refine bcase_f (by simp) ?_
    simp only [M.impl_InsOk, M.insOk]
    rw [if_neg (by omega), if_neg (by omega), if_neg (by omega), if_neg (by omega), if_neg (by omega), if_neg (by omega)]
    have : M.isIn i.Op 3 9 = false := by simp [M.isIn]; omega
    simp [this]
  · rw [hr', e]
    refine ins_core (x := 45) (y := 45) (z := 45) (P := fun r => r = M.impl_InsOk i n) (by decide +kernel) (by decide +kernel) (by decide +kernel) rfl (by decide +kernel) (fun hn => by simp [M.impl_InsOk, M.insOk, hn]) fun hn => ?_
    simp only [M.impl_InsOk, M.insOk, hn, Bool.true_and]
    rw [if_pos h]
    simp [M.impl_isField]
  · rw [hr', e]
    refine ins_core (x := 82) (y := 87) (z := 45) (P := fun r => r = M.impl_InsOk i n) (by decide +kernel) (by decide +kernel) (by decide +kernel) rfl (by decide +kernel) (fun hn => by simp [M.impl_InsOk, M.insOk, hn]) fun hn => ?_
    simp only [M.impl_InsOk, M.insOk, hn, Bool.true_and]
    rw [if_neg (by omega), if_pos h]
    simp [M.impl_isField]
  · rw [hr', e]
    refine ins_core (x := 82) (y := 82) (z := 45) (P := fun r => r = M.impl_InsOk i n) (by decide +kernel) (by decide +kernel) (by decide +kernel) rfl (by decide +kernel) (fun hn => by simp [M.impl_InsOk, M.insOk, hn]) fun hn => ?_
    simp only [M.impl_InsOk, M.insOk, hn, Bool.true_and]
    rw [if_neg (by omega), if_neg (by omega), if_pos h]
    simp [M.impl_isField]
  · rw [hr', e]
    refine ins_core (x := 82) (y := 45) (z := 45) (P := fun r => r = M.impl_InsOk i n) (by decide +kernel) (by decide +kernel) (by decide +kernel) rfl (by decide +kernel) (fun hn => by simp [M.impl_InsOk, M.insOk, hn]) fun hn => ?_
    simp only [M.impl_InsOk, M.insOk, hn, Bool.true_and]
    rw [if_neg (by omega), if_neg (by omega), if_neg (by omega), if_pos h]
    simp [M.impl_isField]
  · rw [hr', e]
    refine ins_core (x := 82) (y := 84) (z := 45) (P := fun r => r = M.impl_InsOk i n) (by decide +kernel) (by decide +kernel) (by decide +kernel) rfl (by decide +kernel) (fun hn => by simp [M.impl_InsOk, M.insOk, hn]) fun hn => ?_
    simp only [M.impl_InsOk, M.insOk, hn, Bool.true_and]
    rw [if_neg (by omega), if_neg (by omega), if_neg (by omega), if_neg (by omega), if_pos h]
    simp [M.impl_isField]
  · rw [hr', e]
    refine ins_core (x := 45) (y := 84) (z := 45) (P := fun r => r = M.impl_InsOk i n) (by decide +kernel) (by decide +kernel) (by decide +kernel) rfl (by decide +kernel) (fun hn => by simp [M.impl_InsOk, M.insOk, hn]) fun hn => ?_
    simp only [M.impl_InsOk, M.insOk, hn, Bool.true_and]
    rw [if_neg (by omega), if_neg (by omega), if_neg (by omega), if_neg (by omega), if_neg (by omega), if_pos h]
    simp [M.impl_isField]
  · rw [hr', e]
    refine ins_core (x := 82) (y := 82) (z := 82) (P := fun r => r = M.impl_InsOk i n) (by decide +kernel) (by decide +kernel) (by decide +kernel) rfl (by decide +kernel) (fun hn => by simp [M.impl_InsOk, M.insOk, hn]) fun hn => ?_
    simp only [M.impl_InsOk, M.insOk, hn, Bool.true_and]
    rw [if_neg (by omega), if_neg (by omega), if_neg (by omega), if_neg (by omega), if_neg (by omega), if_neg (by omega)]
    have : M.isIn i.Op 3 9 = true := by simp [M.isIn]; omega
    simp [M.impl_isField, this]
theorem wp.impl_ProgramOk_1.math (i : D.Ins) (p : List D.Ins) : wp.impl_ProgramOk_1 i p (fun r => r = M.impl_ProgramOk_1 i p) := fun r hr => by rw [hr]; rfl
theorem wp.slices_IndexFunc_impl_Ins_impl_Ins.math (l : List D.Ins) (g : D.Ins → Bool) (D : D.Ins → Prop) (h : M.slices_IndexFunc_impl_Ins_impl_Ins_pre l g D) : wp.slices_IndexFunc_impl_Ins_impl_Ins l g D (fun r => r = M.slices_IndexFunc_impl_Ins_impl_Ins l g) := by
  unfold wp.slices_IndexFunc_impl_Ins_impl_Ins
  obtain ⟨h1, h2⟩ := h
  refine loop_n l.length (fun k => ((k : Int), ())) (fun k => M.slices_IndexFunc_impl_Ins_impl_Ins l g = M.firstIx g (l.drop k) k) rfl (by simp [M.slices_IndexFunc_impl_Ins_impl_Ins]) (fun k hk hF next hn => ?_) fun hF next => ?_
  · rw [firstIx_from g l k hk] at hF
    refine bcase_t (by simp; omega) ⟨by omega, h2 _ (rd_mem hk), fun r hr => bcase_mk (fun e => ?_) fun e => ?_⟩
    · rw [hF, if_pos (by rw [← hr]; exact e)]
    · rw [up64 hk h1]
      exact hn (by rw [hF, if_neg (by rw [← hr, e]; simp)])
  · refine bcase_f (by simp) ?_
    rw [hF]; simp [M.firstIx]
theorem wp.slices_ContainsFunc_impl_Ins_impl_Ins.math (l : List D.Ins) (g : D.Ins → Bool) (D : D.Ins → Prop) (h : M.slices_ContainsFunc_impl_Ins_impl_Ins_pre l g D) : wp.slices_ContainsFunc_impl_Ins_impl_Ins l g D (fun r => r = M.slices_ContainsFunc_impl_Ins_impl_Ins l g) :=
  ⟨h, fun r hr => by rw [hr]; exact firstIx_nonneg g l 0⟩
theorem wp.impl_ProgramOk.math (p : List D.Ins) (h : M.impl_ProgramOk_pre p) : wp.impl_ProgramOk p (fun r => r = M.impl_ProgramOk p) := by
  refine bcase_mk (fun e => ⟨⟨h, fun _ _ => trivial⟩, fun r hr => ?_⟩) fun e => ?_
  · have h32 : p.length ≤ 32 := by simp at e; omega
    rw [hr]
    simp only [M.slices_ContainsFunc_impl_Ins_impl_Ins, M.impl_ProgramOk, M.programOk, M.impl_ProgramOk_1, ← List.all_eq_not_any_not, h32, decide_true, Bool.true_and]
  · have h32 : ¬ p.length ≤ 32 := by simp at e; omega
    simp [M.impl_ProgramOk, M.programOk, h32]
theorem isReg_iff {x : Int} : M.isReg x = true ↔ 0 ≤ x ∧ x ≤ 3 := by simp [M.isReg, M.isIn]
theorem fits_regs {i : D.Ins} {r : List Int} (h : M.Fits i r) : r.length = 4 ∧ (1 ≤ i.Op ∧ i.Op ≤ 10 → 0 ≤ i.A ∧ i.A ≤ 3) ∧ (2 ≤ i.Op ∧ i.Op ≤ 7 ∨ i.Op = 9 → 0 ≤ i.B ∧ i.B ≤ 3) ∧ (3 ≤ i.Op ∧ i.Op ≤ 7 ∨ i.Op = 9 → 0 ≤ i.C ∧ i.C ≤ 3) := by
  obtain ⟨hl, n, hok⟩ := h
  simp only [M.insOk, Bool.and_eq_true] at hok
  have hok := hok.2
  split at hok
  · exact ⟨hl, by omega, by omega, by omega⟩
  split at hok
  · simp only [Bool.and_eq_true, isReg_iff] at hok
    exact ⟨hl, fun _ => hok.1, by omega, by omega⟩
  split at hok
  · simp only [Bool.and_eq_true, isReg_iff] at hok
    exact ⟨hl, fun _ => hok.1, fun _ => hok.2.1, by omega⟩
  split at hok
  · simp only [Bool.and_eq_true, isReg_iff] at hok
    exact ⟨hl, fun _ => hok.1, by omega, by omega⟩
  split at hok
  · simp only [Bool.and_eq_true, isReg_iff] at hok
    exact ⟨hl, fun _ => hok.1, by omega, by omega⟩
  split at hok
  · exact ⟨hl, by omega, by omega, by omega⟩
  · simp only [Bool.and_eq_true, isReg_iff] at hok
    exact ⟨hl, fun _ => hok.2.1, fun _ => hok.2.2.1, fun _ => hok.2.2.2⟩
def Inv (p : List D.Ins) (l : D.Lane) : Prop := 0 ≤ l.Pc ∧ l.Pc ≤ p.length ∧ l.Regs.length = 4
theorem rd_of {α : Type} [Inhabited α] {xs : List α} {i : Int} (h0 : 0 ≤ i) (h1 : i < ((xs.length : Nat) : Int)) : rd xs i ∈ xs := by
  obtain ⟨k, rfl⟩ := Int.eq_ofNat_of_zero_le h0
  exact rd_mem (by omega)
theorem fits_at {p : List D.Ins} (hp : M.programOk p = true) {l : D.Lane} (hi : Inv p l) (hlt : l.Pc < p.length) : M.At p l.Pc l.Regs := by
  obtain ⟨h0, h1, h2⟩ := hi
  simp only [M.programOk, Bool.and_eq_true, decide_eq_true_eq, List.all_eq_true] at hp
  exact ⟨by unfold M.Long; omega, h0, hlt, h2, _, hp.2 _ (rd_of h0 hlt)⟩
theorem apply_len (i : D.Ins) (t : Int) (r : List Int) : (M.apply i t r).length = r.length := by
  unfold M.apply
  (repeat' split) <;> simp
theorem next_in {p : List D.Ins} {l : D.Lane} (hp : M.programOk p = true) (hi : Inv p l) (hlt : l.Pc < p.length) : 0 ≤ M.next p l.Pc l.Regs ∧ M.next p l.Pc l.Regs ≤ p.length := by
  obtain ⟨h0, h1, h2⟩ := hi
  simp only [M.programOk, Bool.and_eq_true, decide_eq_true_eq, List.all_eq_true] at hp
  have hok := hp.2 _ (rd_of h0 hlt)
  simp only [M.insOk, Bool.and_eq_true] at hok
  have hok := hok.2
  unfold M.next
  split
  · omega
  split
  · rename_i h12 h11
    rw [if_neg (by omega), if_neg (by omega), if_neg (by omega), if_neg (by omega), if_neg (by omega), if_pos h11] at hok
    simp only [Bool.and_eq_true, M.isIn, decide_eq_true_eq] at hok
    exact hok.2.1
  split
  · rename_i h12 h11 h10
    rw [if_neg (by omega), if_neg (by omega), if_neg (by omega), if_neg (by omega), if_pos h10] at hok
    simp only [Bool.and_eq_true, M.isIn, decide_eq_true_eq] at hok
    split
    · exact hok.2.1
    · omega
  · omega
theorem inv_step {p : List D.Ins} {l : D.Lane} (hp : M.programOk p = true) (hi : Inv p l) (hlt : l.Pc < p.length) : Inv p (M.step p l) := by
  have h := next_in hp hi hlt
  exact ⟨h.1, h.2, by simp only [M.step, apply_len]; exact hi.2.2⟩
theorem laneOk_inv {p : List D.Ins} {l : D.Lane} (h : M.laneOk p l = true) : M.programOk p = true ∧ Inv p l := by
  simp only [M.laneOk, M.laneOf, M.areRegs, M.isIn, Bool.and_eq_true, decide_eq_true_eq, beq_iff_eq] at h
  exact ⟨h.1, h.2.2.1.1, h.2.2.1.2, h.2.2.2.1⟩
theorem quiet_local {p : List D.Ins} (h : M.isQuiet p = true) {i : Int} (h0 : 0 ≤ i) (h1 : i < ((p.length : Nat) : Int)) : M.isLocal (rd p i) = true := by
  simp only [M.isQuiet, Bool.and_eq_true, List.all_eq_true] at h
  exact h.2 _ (rd_of h0 h1)
end Go.V
set_option linter.unusedVariables false
set_option linter.unusedVariables false
set_option linter.unusedSimpArgs false
set_option linter.unusedVariables false
set_option linter.unusedVariables false
set_option linter.unusedSimpArgs false
set_option linter.unusedVariables false
namespace Go.V
def wp.impl_isWarpNumber (x0 : Int) (Q : Bool → Prop) : Prop :=
  (∀ r21, r21 = M.impl_within x0 0 2 → Q r21)
end Go.V
set_option linter.unusedVariables false
set_option linter.unusedSimpArgs false
namespace Go.V
theorem wp.impl_isWarpNumber.math (x : Int) : wp.impl_isWarpNumber x (fun r => r = M.impl_isWarpNumber x) := fun r hr => hr
end Go.V
set_option linter.unusedVariables false
namespace Go.V
def wp.spec_l01New (xs0 : List Int) (Q : D.Cur → Prop) : Prop :=
  LoopP (σ := Int × Int × Unit) (fun (p42 : Int × Int × Unit) next26 => match p42 with | (i21, i22, _) => bcase (decide (i22 < ((xs0.length : Nat) : Int))) (bcase (decide (i22 < 4000)) (((0 ≤ i22 ∧ i22 < ((xs0.length : Nat) : Int)) ∧ next26 ((bitAnd .i64 (IntKind.wrap .i64 ((IntKind.wrap .i64 ((IntKind.wrap .i64 (i21 * 131)) + (IntKind.wrap .i64 (rd xs0 i22)))) + 7)) 1073741823), (IntKind.wrap .i64 (i22 + 1)), ()))) (Q (⟨xs0, 0, i21⟩ : D.Cur))) (Q (⟨xs0, 0, i21⟩ : D.Cur))) ((IntKind.wrap .i64 (98561 + ((xs0.length : Nat) : Int))), 0, ())
def wp.spec_l01Byte (s0 : D.Cur) (Q : (Int × D.Cur) → Prop) : Prop :=
  bcase (decide (s0.i < ((s0.b.length : Nat) : Int))) (((0 ≤ s0.i ∧ s0.i < ((s0.b.length : Nat) : Int)) ∧ Q ((bitAnd .i64 (IntKind.wrap .i64 ((bitAnd .i64 (bitXor .i64 (Int.fdiv (IntKind.wrap .i64 ((IntKind.wrap .i64 (s0.h * 6364136223846793005)) + 1442695040888963407)) (2 ^ (min ((33 : Int).toNat) (IntKind.bits .i64)))) (Int.fdiv (IntKind.wrap .i64 ((IntKind.wrap .i64 (s0.h * 6364136223846793005)) + 1442695040888963407)) (2 ^ (min ((45 : Int).toNat) (IntKind.bits .i64))))) 255) + (IntKind.wrap .i64 (rd s0.b s0.i)))) 255), (⟨s0.b, (IntKind.wrap .i64 (s0.i + 1)), (IntKind.wrap .i64 ((IntKind.wrap .i64 (s0.h * 6364136223846793005)) + 1442695040888963407))⟩ : D.Cur)))) (Q ((bitAnd .i64 (bitXor .i64 (Int.fdiv (IntKind.wrap .i64 ((IntKind.wrap .i64 (s0.h * 6364136223846793005)) + 1442695040888963407)) (2 ^ (min ((33 : Int).toNat) (IntKind.bits .i64)))) (Int.fdiv (IntKind.wrap .i64 ((IntKind.wrap .i64 (s0.h * 6364136223846793005)) + 1442695040888963407)) (2 ^ (min ((45 : Int).toNat) (IntKind.bits .i64))))) 255), (⟨s0.b, s0.i, (IntKind.wrap .i64 ((IntKind.wrap .i64 (s0.h * 6364136223846793005)) + 1442695040888963407))⟩ : D.Cur)))
def wp.spec_l01Below (s0 : D.Cur) (x1 : Int) (Q : (Int × D.Cur) → Prop) : Prop :=
  bcase (decide (x1 ≤ 0)) (Q (0, (⟨s0.b, s0.i, s0.h⟩ : D.Cur))) (bcase (decide (x1 ≤ 256)) ((M.spec_l01Byte_pre s0 ∧ ∀ r21, r21 = M.spec_l01Byte s0 → (((x1 : Int) ≠ 0) ∧ Q ((Int.tmod r21.1 x1), (⟨s0.b, r21.2.i, r21.2.h⟩ : D.Cur))))) ((M.spec_l01Byte_pre s0 ∧ ∀ r28, r28 = M.spec_l01Byte s0 → (M.spec_l01Byte_pre (⟨s0.b, r28.2.i, r28.2.h⟩ : D.Cur) ∧ ∀ r34, r34 = M.spec_l01Byte (⟨s0.b, r28.2.i, r28.2.h⟩ : D.Cur) → (M.spec_l01Byte_pre (⟨s0.b, r34.2.i, r34.2.h⟩ : D.Cur) ∧ ∀ r40, r40 = M.spec_l01Byte (⟨s0.b, r34.2.i, r34.2.h⟩ : D.Cur) → (M.spec_l01Byte_pre (⟨s0.b, r40.2.i, r40.2.h⟩ : D.Cur) ∧ ∀ r46, r46 = M.spec_l01Byte (⟨s0.b, r40.2.i, r40.2.h⟩ : D.Cur) → (((x1 : Int) ≠ 0) ∧ Q ((Int.tmod (IntKind.wrap .i64 ((IntKind.wrap .i64 ((IntKind.wrap .i64 ((IntKind.wrap .i64 (r28.1 * 16777216)) + (IntKind.wrap .i64 (r34.1 * 65536)))) + (IntKind.wrap .i64 (r40.1 * 256)))) + r46.1)) x1), (⟨s0.b, r46.2.i, r46.2.h⟩ : D.Cur)))))))))
def wp.spec_l01PickInt (s0 : D.Cur) (xs1 : List Int) (Q : (Int × D.Cur) → Prop) : Prop :=
  (M.spec_l01Below_pre s0 ((xs1.length : Nat) : Int) ∧ ∀ r21, r21 = M.spec_l01Below s0 ((xs1.length : Nat) : Int) → ((0 ≤ r21.1 ∧ r21.1 < ((xs1.length : Nat) : Int)) ∧ Q ((rd xs1 r21.1), (⟨s0.b, r21.2.i, r21.2.h⟩ : D.Cur))))
def wp.spec_l04Plain (s0 : D.Cur) (Q : (D.Ins × D.Cur) → Prop) : Prop :=
  (M.spec_l01Below_pre s0 9 ∧ ∀ r23, r23 = M.spec_l01Below s0 9 → (M.spec_l01Below_pre (⟨s0.b, r23.2.i, r23.2.h⟩ : D.Cur) 4 ∧ ∀ r29, r29 = M.spec_l01Below (⟨s0.b, r23.2.i, r23.2.h⟩ : D.Cur) 4 → bcase ((IntKind.wrap .i64 (1 + r23.1)) == 1) ((M.spec_l01Below_pre (⟨s0.b, r29.2.i, r29.2.h⟩ : D.Cur) 6 ∧ ∀ r39, r39 = M.spec_l01Below (⟨s0.b, r29.2.i, r29.2.h⟩ : D.Cur) 6 → Q ((⟨(IntKind.wrap .i64 (1 + r23.1)), r29.1, r39.1, 0⟩ : D.Ins), (⟨s0.b, r39.2.i, r39.2.h⟩ : D.Cur)))) (bcase ((IntKind.wrap .i64 (1 + r23.1)) == 8) (Q ((⟨(IntKind.wrap .i64 (1 + r23.1)), r29.1, 0, 0⟩ : D.Ins), (⟨s0.b, r29.2.i, r29.2.h⟩ : D.Cur))) (bcase ((IntKind.wrap .i64 (1 + r23.1)) == 2) ((M.spec_l01Below_pre (⟨s0.b, r29.2.i, r29.2.h⟩ : D.Cur) 4 ∧ ∀ r51, r51 = M.spec_l01Below (⟨s0.b, r29.2.i, r29.2.h⟩ : D.Cur) 4 → Q ((⟨(IntKind.wrap .i64 (1 + r23.1)), r29.1, r51.1, 0⟩ : D.Ins), (⟨s0.b, r51.2.i, r51.2.h⟩ : D.Cur)))) ((M.spec_l01Below_pre (⟨s0.b, r29.2.i, r29.2.h⟩ : D.Cur) 4 ∧ ∀ r61, r61 = M.spec_l01Below (⟨s0.b, r29.2.i, r29.2.h⟩ : D.Cur) 4 → (M.spec_l01Below_pre (⟨s0.b, r61.2.i, r61.2.h⟩ : D.Cur) 4 ∧ ∀ r69, r69 = M.spec_l01Below (⟨s0.b, r61.2.i, r61.2.h⟩ : D.Cur) 4 → Q ((⟨(IntKind.wrap .i64 (1 + r23.1)), r29.1, r61.1, r69.1⟩ : D.Ins), (⟨s0.b, r69.2.i, r69.2.h⟩ : D.Cur)))))))))
def wp.spec_DrawPlaces (xs0 : List Int) (Q : (List Int) → Prop) : Prop :=
  (M.spec_l01New_pre xs0 ∧ ∀ r21, r21 = M.spec_l01New xs0 → LoopP (σ := (List Int) × Int × Int × Int × Unit) (fun (p82 : (List Int) × Int × Int × Int × Unit) next62 => match p82 with | (xs53, i56, i57, i58, _) => bcase (decide (i56 < 12)) ((M.spec_l01Below_pre (⟨xs0, i57, i58⟩ : D.Cur) 10000 ∧ ∀ r64, r64 = M.spec_l01Below (⟨xs0, i57, i58⟩ : D.Cur) 10000 → ((xs53.length + ([r64.1] : List Int).length ≤ 17179869184) ∧ next62 ((xs53 ++ ([r64.1] : List Int)), (IntKind.wrap .i64 (i56 + 1)), r64.2.i, r64.2.h, ())))) (Q xs53)) (([] : List Int), 0, r21.i, r21.h, ()))
def wp.laws_big (xs0 : List Int) (Q : Bool → Prop) : Prop :=
  Q (decide (((xs0.length : Nat) : Int) > 1048576))
def wp.laws_sameInts (xs0 : List Int) (xs1 : List Int) (Q : Bool → Prop) : Prop :=
  bcase (((xs0.length : Nat) : Int) != ((xs1.length : Nat) : Int)) (Q false) (LoopP (σ := Int × Unit) (fun (p43 : Int × Unit) next25 => match p43 with | (i21, _) => bcase (decide (i21 < ((xs0.length : Nat) : Int))) (((0 ≤ i21 ∧ i21 < ((xs0.length : Nat) : Int)) ∧ ((0 ≤ i21 ∧ i21 < ((xs1.length : Nat) : Int)) ∧ bcase ((rd xs0 i21) != (rd xs1 i21)) (Q false) (next25 ((IntKind.wrap .i64 (i21 + 1)), ()))))) (Q true)) (0, ()))
end Go.V
set_option linter.unusedVariables false
set_option linter.unusedSimpArgs false
set_option maxRecDepth 20000
namespace Go.V
theorem bitAnd_255 (x : Int) : bitAnd .i64 x 255 = x % 256 := by
  unfold bitAnd
  have e1 : (BitVec.ofInt (IntKind.bits .i64) x &&& BitVec.ofInt (IntKind.bits .i64) 255).toNat = (x % 256).toNat := by
    show (BitVec.ofInt 64 x &&& BitVec.ofInt 64 255).toNat = _
    rw [BitVec.toNat_and, BitVec.toNat_ofInt, show (BitVec.ofInt 64 255).toNat = 2 ^ 8 - 1 from rfl, Nat.and_two_pow_sub_one_eq_mod]
    rw [show ((2 ^ 64 : Nat) : Int) = 18446744073709551616 from rfl]
    omega
  rw [e1, w64 (by omega) (by omega)]
  omega
theorem byte_in (c : D.Cur) : 0 ≤ (M.spec_l01Byte c).1 ∧ (M.spec_l01Byte c).1 ≤ 255 := by
  unfold M.spec_l01Byte
  split
  · show 0 ≤ bitAnd .i64 _ 255 ∧ bitAnd .i64 _ 255 ≤ 255
    rw [bitAnd_255]; omega
  · show 0 ≤ M.curX _ ∧ M.curX _ ≤ 255
    unfold M.curX
    rw [bitAnd_255]; omega
theorem byte_b (c : D.Cur) : (M.spec_l01Byte c).2.b = c.b := by unfold M.spec_l01Byte; split <;> rfl
theorem byte_ok {c : D.Cur} (h : M.CurOk c) : M.CurOk (M.spec_l01Byte c).2 := by
  obtain ⟨h1, h2⟩ := h
  refine ⟨?_, by rw [byte_b]; exact h2⟩
  unfold M.Long at h2
  unfold M.spec_l01Byte
  split
  · rename_i hlt
    show 0 ≤ IntKind.wrap .i64 (c.i + 1)
    rw [w64 (by omega) (by omega)]; omega
  · exact h1
theorem below_b (c : D.Cur) (n : Int) : (M.spec_l01Below c n).2.b = c.b := by
  unfold M.spec_l01Below
  (repeat' split) <;> simp only [byte_b]
theorem below_ok {c : D.Cur} (h : M.CurOk c) (n : Int) : M.CurOk (M.spec_l01Below c n).2 := by
  unfold M.spec_l01Below
  split
  · exact h
  split
  · exact byte_ok h
  · exact byte_ok (byte_ok (byte_ok (byte_ok h)))
theorem tmod_in {x n : Int} (hx : 0 ≤ x) (hn : 0 < n) : 0 ≤ Int.tmod x n ∧ Int.tmod x n < n :=
  ⟨Int.tmod_nonneg _ hx, Int.tmod_lt_of_pos _ hn⟩
theorem below_in (c : D.Cur) {n : Int} (hn : 0 < n) : 0 ≤ (M.spec_l01Below c n).1 ∧ (M.spec_l01Below c n).1 < n := by
  unfold M.spec_l01Below
  rw [if_neg (by omega)]
  split
  · exact tmod_in (byte_in c).1 hn
  · refine tmod_in ?_ hn
    have h1 := byte_in c
    have h2 := byte_in (M.spec_l01Byte c).2
    have h3 := byte_in (M.spec_l01Byte (M.spec_l01Byte c).2).2
    have h4 := byte_in (M.spec_l01Byte (M.spec_l01Byte (M.spec_l01Byte c).2).2).2
    rw [w64 (x := (M.spec_l01Byte c).1 * 16777216) (by omega) (by omega), w64 (x := (M.spec_l01Byte (M.spec_l01Byte c).2).1 * 65536) (by omega) (by omega),
      w64 (x := (M.spec_l01Byte (M.spec_l01Byte (M.spec_l01Byte c).2).2).1 * 256) (by omega) (by omega), w64 (x := _ + (M.spec_l01Byte (M.spec_l01Byte c).2).1 * 65536) (by omega) (by omega),
      w64 (x := _ + (M.spec_l01Byte (M.spec_l01Byte (M.spec_l01Byte c).2).2).1 * 256) (by omega) (by omega), w64 (by omega) (by omega)]
    omega
set_option maxRecDepth 20000 in
theorem wp.spec_l01New.math (b : List Int) (h : M.spec_l01New_pre b) : wp.spec_l01New b (fun r => r = M.spec_l01New b) := by
  unfold wp.spec_l01New
  have hl : b.length ≤ 9223372036854775807 := h
  let h0 := IntKind.wrap .i64 (98561 + ((b.length : Nat) : Int))
  refine loop_n (min b.length 4000) (fun k => ((b.take k).foldl M.curNext h0, (k : Int), ())) (fun _ => True) rfl trivial (fun k hk _ next hn => ?_) fun _ next => ?_
  · have hk1 : k < b.length := by omega
    have hn := hn trivial
    rw [List.take_add_one, List.getElem?_eq_getElem hk1, Option.toList_some, List.foldl_append] at hn
    refine bcase_t (by simp; omega) (bcase_t (by simp; omega) ⟨by omega, ?_⟩)
    rw [up64 hk1 hl, rd_nat hk1]
    exact hn
  · have fin : (⟨b, 0, (b.take (min b.length 4000)).foldl M.curNext h0⟩ : D.Cur) = M.spec_l01New b := by
      unfold M.spec_l01New
      congr 2
      rcases Nat.le_total b.length 4000 with g | g
      · rw [Nat.min_eq_left g, List.take_length, List.take_of_length_le g]
      · rw [Nat.min_eq_right g]
    by_cases g : b.length ≤ 4000
    · exact bcase_f (by simp; omega) fin
    · exact bcase_t (by simp; omega) (bcase_f (by simp; omega) fin)
theorem wp.spec_l01Byte.math (c : D.Cur) (h : M.spec_l01Byte_pre c) : wp.spec_l01Byte c (fun r => r = M.spec_l01Byte c) := by
  obtain ⟨h1, h2⟩ := h
  refine bcase_mk (fun e => ⟨⟨h1, by simpa using e⟩, ?_⟩) fun e => ?_
  · have e : c.i < ((c.b.length : Nat) : Int) := by simpa using e
    unfold M.spec_l01Byte
    rw [if_pos e]; rfl
  · have e : ¬ c.i < ((c.b.length : Nat) : Int) := by simpa using e
    unfold M.spec_l01Byte
    rw [if_neg e]; rfl
theorem cur_eta {c d : D.Cur} (h : d.b = c.b) : (⟨c.b, d.i, d.h⟩ : D.Cur) = d := by rw [← h]
theorem wp.spec_l01PickInt.math (c : D.Cur) (l : List Int) (h : M.spec_l01PickInt_pre c l) : wp.spec_l01PickInt c l (fun r => r = M.spec_l01PickInt c l) := by
  obtain ⟨h1, h2, h3⟩ := h
  have hpos : (0 : Int) < ((l.length : Nat) : Int) := by have := List.length_pos_iff.2 h2; omega
  refine ⟨h1, fun r hr => ?_⟩
  have := below_in c hpos
  refine ⟨by rw [hr]; exact this, ?_⟩
  rw [hr, cur_eta (below_b c _)]; rfl
theorem wp.spec_l01Below.math (c : D.Cur) (n : Int) (h : M.spec_l01Below_pre c n) : wp.spec_l01Below c n (fun r => r = M.spec_l01Below c n) := by
  refine bcase_mk (fun e => ?_) fun e => bcase_mk (fun e2 => ⟨h, fun r hr => ⟨?_, ?_⟩⟩) fun e2 => ?_
  · have e : n ≤ 0 := by simpa using e
    unfold M.spec_l01Below; rw [if_pos e]
  · simp at e; omega
  · have e : ¬ n ≤ 0 := by simpa using e
    have e2 : n ≤ 256 := by simpa using e2
    unfold M.spec_l01Below; rw [if_neg e, if_pos e2, hr, cur_eta (byte_b c)]
  · have e : ¬ n ≤ 0 := by simpa using e
    have e2 : ¬ n ≤ 256 := by simpa using e2
    have h1 := byte_ok h
    have h2 := byte_ok h1
    have h3 := byte_ok h2
    have b1 := byte_b c
    have b2 : (M.spec_l01Byte (M.spec_l01Byte c).2).2.b = c.b := (byte_b _).trans b1
    have b3 : (M.spec_l01Byte (M.spec_l01Byte (M.spec_l01Byte c).2).2).2.b = c.b := (byte_b _).trans b2
    have b4 : (M.spec_l01Byte (M.spec_l01Byte (M.spec_l01Byte (M.spec_l01Byte c).2).2).2).2.b = c.b := (byte_b _).trans b3
    refine ⟨h, fun r1 g1 => ?_⟩
    subst g1
    rw [cur_eta b1]
    refine ⟨h1, fun r2 g2 => ?_⟩
    subst g2
    rw [cur_eta b2]
    refine ⟨h2, fun r3 g3 => ?_⟩
    subst g3
    rw [cur_eta b3]
    refine ⟨h3, fun r4 g4 => ⟨by omega, ?_⟩⟩
    subst g4
    rw [cur_eta b4]
    unfold M.spec_l01Below; rw [if_neg e, if_neg e2]
theorem wp.spec_l04Plain.math (c : D.Cur) (h : M.spec_l04Plain_pre c) : wp.spec_l04Plain c (fun r => r = M.spec_l04Plain c) := by
  refine ⟨h, fun r1 g1 => ?_⟩
  subst g1
  rw [cur_eta (below_b c 9)]
  refine ⟨below_ok h 9, fun r2 g2 => ?_⟩
  subst g2
  have b2 : (M.spec_l01Below (M.spec_l01Below c 9).2 4).2.b = c.b := (below_b _ _).trans (below_b _ _)
  have h2 := below_ok (below_ok h 9) 4
  rw [cur_eta b2]
  have cut : ∀ (n : Int), (⟨c.b, (M.spec_l01Below (M.spec_l01Below (M.spec_l01Below c 9).2 4).2 n).2.i, (M.spec_l01Below (M.spec_l01Below (M.spec_l01Below c 9).2 4).2 n).2.h⟩ : D.Cur) = (M.spec_l01Below (M.spec_l01Below (M.spec_l01Below c 9).2 4).2 n).2 := fun n => cur_eta ((below_b _ _).trans b2)
  refine bcase_mk (fun e => ⟨h2, fun r3 g3 => ?_⟩) fun e1 => bcase_mk (fun e => ?_) fun e8 => bcase_mk (fun e => ⟨h2, fun r3 g3 => ?_⟩) fun e2 => ⟨h2, fun r3 g3 => ?_⟩
  · subst g3
    rw [cut]
    have e : IntKind.wrap .i64 (1 + (M.spec_l01Below c 9).1) = 1 := by simpa using e
    simp only [M.spec_l04Plain]; rw [if_pos e]
  · have e1 : ¬ IntKind.wrap .i64 (1 + (M.spec_l01Below c 9).1) = 1 := by simpa using e1
    have e : IntKind.wrap .i64 (1 + (M.spec_l01Below c 9).1) = 8 := by simpa using e
    simp only [M.spec_l04Plain]; rw [if_neg e1, if_pos e]
  · subst g3
    rw [cut]
    have e1 : ¬ IntKind.wrap .i64 (1 + (M.spec_l01Below c 9).1) = 1 := by simpa using e1
    have e8 : ¬ IntKind.wrap .i64 (1 + (M.spec_l01Below c 9).1) = 8 := by simpa using e8
    have e : IntKind.wrap .i64 (1 + (M.spec_l01Below c 9).1) = 2 := by simpa using e
    simp only [M.spec_l04Plain]; rw [if_neg e1, if_neg e8, if_pos e]
  · subst g3
    rw [cut]
    refine ⟨below_ok h2 4, fun r4 g4 => ?_⟩
    subst g4
    rw [cur_eta ((below_b _ _).trans ((below_b _ _).trans b2))]
    have e1 : ¬ IntKind.wrap .i64 (1 + (M.spec_l01Below c 9).1) = 1 := by simpa using e1
    have e8 : ¬ IntKind.wrap .i64 (1 + (M.spec_l01Below c 9).1) = 8 := by simpa using e8
    have e2 : ¬ IntKind.wrap .i64 (1 + (M.spec_l01Below c 9).1) = 2 := by simpa using e2
    simp only [M.spec_l04Plain]; rw [if_neg e1, if_neg e8, if_neg e2]
theorem pick_b (c : D.Cur) (l : List Int) : (M.spec_l01PickInt c l).2.b = c.b := below_b _ _
theorem pick_ok {c : D.Cur} (h : M.CurOk c) (l : List Int) : M.CurOk (M.spec_l01PickInt c l).2 := below_ok h _
theorem wp.laws_big.math (b : List Int) : wp.laws_big b (fun r => r = M.laws_big b) := rfl
theorem wp.laws_sameInts.math (a b : List Int) (h : M.laws_sameInts_pre a b) : wp.laws_sameInts a b (fun r => r = M.laws_sameInts a b) := by
  unfold wp.laws_sameInts
  have hb : a.length ≤ 9223372036854775807 := h
  refine bcase_mk (fun e => ?_) fun e => ?_
  · simp [M.laws_sameInts]; rintro rfl; simp at e
  have hl : a.length = b.length := by simp at e; omega
  refine loop_n a.length (fun k => ((k : Int), ())) (fun k => ∀ j : Nat, j < k → rd a j = rd b j) rfl (by simp) (fun k hk hF next hn => ?_) fun hF next => ?_
  · refine bcase_t (by simp; omega) ⟨by omega, by omega, bcase_mk (fun e => ?_) fun e => ?_⟩
    · simp [M.laws_sameInts]; rintro rfl; simp at e
    · rw [up64 hk hb]
      refine hn fun j hj => ?_
      by_cases hjk : j = k
      · subst hjk; simpa using e
      · exact hF j (by omega)
  · refine bcase_f (by simp) ?_
    have := eq_of_takes hl hF
    simp [M.laws_sameInts, this]
theorem plain_b (c : D.Cur) : (M.spec_l04Plain c).2.b = c.b := by
  simp only [M.spec_l04Plain]
  (repeat' split) <;> simp only [below_b]
theorem plain_ok {c : D.Cur} (h : M.CurOk c) : M.CurOk (M.spec_l04Plain c).2 := by
  simp only [M.spec_l04Plain]
  have h2 := below_ok (below_ok h 9) 4
  (repeat' split)
  · exact below_ok h2 _
  · exact h2
  · exact below_ok h2 _
  · exact below_ok (below_ok h2 _) _
theorem places_b : ∀ (k : Nat) (c : D.Cur), (M.placesN k c).2.b = c.b
  | 0, c => rfl
  | k + 1, c => by simp only [M.placesN]; rw [below_b, places_b k c]
theorem places_ok : ∀ (k : Nat) {c : D.Cur}, M.CurOk c → M.CurOk (M.placesN k c).2
  | 0, c, h => h
  | k + 1, c, h => below_ok (places_ok k h) _
theorem places_len : ∀ (k : Nat) (c : D.Cur), (M.placesN k c).1.length = k
  | 0, c => rfl
  | k + 1, c => by simp only [M.placesN, List.length_append, places_len k c]; rfl
theorem new_ok {b : List Int} (h : M.Long b) : M.CurOk (M.spec_l01New b) := ⟨by simp [M.spec_l01New], h⟩
theorem wp.spec_DrawPlaces.math (b : List Int) (h : M.spec_DrawPlaces_pre b) : wp.spec_DrawPlaces b (fun r => r = M.spec_DrawPlaces b) := by
  refine ⟨h, fun r0 g0 => ?_⟩
  subst g0
  refine loop_n 12 (fun k => ((M.placesN k (M.spec_l01New b)).1, (k : Int), (M.placesN k (M.spec_l01New b)).2.i, (M.placesN k (M.spec_l01New b)).2.h, ())) (fun _ => True) rfl trivial (fun k hk _ next hn => ?_) fun _ next => ?_
  · have hn := hn trivial
    refine bcase_t (by simp; omega) ?_
    have e : (⟨b, (M.placesN k (M.spec_l01New b)).2.i, (M.placesN k (M.spec_l01New b)).2.h⟩ : D.Cur) = (M.placesN k (M.spec_l01New b)).2 := cur_eta (c := M.spec_l01New b) (places_b k _)
    rw [e]
    refine ⟨places_ok k (new_ok h), fun r hr => ⟨by rw [places_len]; simp; omega, ?_⟩⟩
    subst hr
    rw [up64 hk (by omega)]
    exact hn
  · exact bcase_f (by simp) rfl
theorem runN_end (p : List D.Ins) (k : Nat) (l : D.Lane) (n : Int) (h : ¬ l.Pc < p.length) : M.runN p k l n = (l, n) := by
  cases k with
  | zero => rfl
  | succ k => rw [M.runN, if_neg h]
theorem reg_below (c : D.Cur) : M.isReg (M.spec_l01Below c 4).1 = true := by
  have := below_in c (n := 4) (by omega)
  rw [isReg_iff]; omega
theorem plain_good (c : D.Cur) {n : Int} (hn : 0 ≤ n ∧ n ≤ 32) : M.insOk (M.spec_l04Plain c).1 n = true ∧ M.isLocal (M.spec_l04Plain c).1 = true := by
  have h9 := below_in c (n := 9) (by omega)
  have hw : IntKind.wrap .i64 (1 + (M.spec_l01Below c 9).1) = 1 + (M.spec_l01Below c 9).1 := w64 (by omega) (by omega)
  have hin : M.isIn n 0 32 = true := by simp [M.isIn]; omega
  have h6 := fun d : D.Cur => below_in d (n := 6) (by omega)
  have hw6 : ∀ d : D.Cur, M.isWord (M.spec_l01Below d 6).1 = true := fun d => by rw [isWord_iff]; have := h6 d; omega
  simp only [M.spec_l04Plain, hw]
  generalize (M.spec_l01Below c 9).1 = o at *
  split
  · rename_i e
    refine ⟨?_, by simp [M.isLocal, M.isIn]; omega⟩
    simp only [M.insOk, hin, Bool.true_and]
    rw [if_neg (by omega), if_pos (by omega)]
    simp [reg_below, hw6]
  split
  · rename_i e
    refine ⟨?_, by simp [M.isLocal, M.isIn]; omega⟩
    simp only [M.insOk, hin, Bool.true_and]
    rw [if_neg (by omega), if_neg (by omega), if_neg (by omega), if_pos (by omega)]
    simp [reg_below]
  split
  · rename_i e
    refine ⟨?_, by simp [M.isLocal, M.isIn]; omega⟩
    simp only [M.insOk, hin, Bool.true_and]
    rw [if_neg (by omega), if_neg (by omega), if_pos (by omega)]
    simp [reg_below]
  · refine ⟨?_, by simp [M.isLocal, M.isIn]; omega⟩
    simp only [M.insOk, hin, Bool.true_and]
    rw [if_neg (by omega), if_neg (by omega), if_neg (by omega), if_neg (by omega), if_neg (by omega), if_neg (by omega)]
    have : M.isIn (1 + o) 3 9 = true := by simp [M.isIn]; omega
    simp [reg_below, this]
theorem places_good : ∀ (k : Nat) (c : D.Cur), ∀ x ∈ (M.placesN k c).1, 0 ≤ x ∧ x < 10000
  | 0, c, x, hx => by simp [M.placesN] at hx
  | k + 1, c, x, hx => by
    simp only [M.placesN, List.mem_append, List.mem_singleton] at hx
    rcases hx with hx | rfl
    · exact places_good k c x hx
    · exact below_in _ (by omega)
theorem lessW_word (a b : Int) : M.isWord (M.lessW a b) = true := by unfold M.lessW; split <;> rfl
theorem zero_or_mod (c : Bool) (x : Int) : M.isWord (if c then x % 65536 else 0) = true := by split; exact isWord_mod x; rfl
theorem addW_word (a b : Int) : M.isWord (M.addW a b) = true := zero_or_mod _ _
theorem subW_word (a b : Int) : M.isWord (M.subW a b) = true := zero_or_mod _ _
theorem mulW_word (a b : Int) : M.isWord (M.mulW a b) = true := zero_or_mod _ _
theorem xorW_word {a b : Int} (ha : M.isWord a = true) (hb : M.isWord b = true) : M.isWord (bitXor .i64 a b) = true := by
  rw [isWord_iff] at *
  unfold bitXor
  have e1 : (BitVec.ofInt (IntKind.bits .i64) a ^^^ BitVec.ofInt (IntKind.bits .i64) b).toNat = a.toNat ^^^ b.toNat := by
    show (BitVec.ofInt 64 a ^^^ BitVec.ofInt 64 b).toNat = _
    rw [BitVec.toNat_xor, BitVec.toNat_ofInt, BitVec.toNat_ofInt, show ((2 ^ 64 : Nat) : Int) = 18446744073709551616 from rfl]
    congr 1 <;> omega
  have e2 : a.toNat ^^^ b.toNat < 2 ^ 16 := Nat.xor_lt_two_pow (by omega) (by omega)
  rw [e1, w64 (by omega) (by omega)]
  omega
theorem set_words {r : List Int} (h : r.all M.isWord = true) (k : Nat) {x : Int} (hx : M.isWord x = true) : (r.set k x).all M.isWord = true := by
  rw [List.all_eq_true] at *
  intro y hy
  rcases List.mem_or_eq_of_mem_set hy with h' | rfl
  · exact h y h'
  · exact hx
theorem apply_words {i : D.Ins} {n : Int} {t : Int} {r : List Int} (hok : M.insOk i n = true) (ht : 0 ≤ t ∧ t ≤ 23) (hl : r.length = 4) (h : r.all M.isWord = true) : (M.apply i t r).all M.isWord = true := by
  obtain ⟨_, hA, hB, hC⟩ := fits_regs (i := i) (r := r) ⟨hl, n, hok⟩
  have hw := List.all_eq_true.1 h
  have rdw : ∀ x, 0 ≤ x ∧ x ≤ 3 → M.isWord (rd r x) = true := fun x hx => hw _ (rd_of hx.1 (by omega))
  unfold M.apply
  split
  · rename_i e
    refine set_words h _ ?_
    simp only [M.insOk, Bool.and_eq_true] at hok
    have hok := hok.2
    rw [if_neg (by omega), if_pos e] at hok
    simp only [Bool.and_eq_true] at hok
    exact hok.2.1
  split
  · exact set_words h _ (rdw _ (hB (by omega)))
  split
  · exact set_words h _ (addW_word _ _)
  split
  · exact set_words h _ (subW_word _ _)
  split
  · exact set_words h _ (mulW_word _ _)
  split
  · exact set_words h _ (xorW_word (rdw _ (hB (by omega))) (rdw _ (hC (by omega))))
  split
  · exact set_words h _ (lessW_word _ _)
  split
  · exact set_words h _ (isWord_iff.2 (by omega))
  split
  · split
    · exact set_words h _ (rdw _ (hB (by omega)))
    · exact h
  · exact h
theorem laneOk_step {p : List D.Ins} {l : D.Lane} (h : M.laneOk p l = true) (hlt : l.Pc < p.length) : M.laneOk p (M.step p l) = true := by
  obtain ⟨hp, hI⟩ := laneOk_inv h
  have hI' := inv_step hp hI hlt
  have hins := fits_at hp hI hlt
  simp only [M.laneOk, M.laneOf, M.areRegs, M.isIn, Bool.and_eq_true, decide_eq_true_eq, beq_iff_eq] at h ⊢
  have hok : M.insOk (rd p l.Pc) p.length = true := by
    simp only [M.programOk, Bool.and_eq_true, decide_eq_true_eq, List.all_eq_true] at hp
    exact hp.2 _ (rd_of hI.1 hlt)
  exact ⟨hp, h.2.1, ⟨hI'.1, hI'.2.1⟩, hI'.2.2, apply_words hok h.2.1 h.2.2.2.1 h.2.2.2.2⟩
end Go.V
set_option linter.unusedVariables false
set_option linter.unusedVariables false
set_option linter.unusedSimpArgs false
set_option maxRecDepth 20000
namespace Go.V
theorem eq_loop {α : Type} [Inhabited α] [BEq α] [LawfulBEq α] {a b : List α} (ha : M.Long a) (hl : a.length = b.length) {B : (Int × Unit) → ((Int × Unit) → Prop) → Prop} {Q : Bool → Prop}
    (hb : ∀ (k : Nat) (next : (Int × Unit) → Prop), k < a.length → k < b.length → (rd a (k : Int) ≠ rd b (k : Int) → Q false) → (rd a (k : Int) = rd b (k : Int) → next (((k + 1 : Nat) : Int), ())) → B ((k : Int), ()) next)
    (he : ∀ (next : (Int × Unit) → Prop), a = b → B ((a.length : Int), ()) next) (hQ : a ≠ b → Q false) : LoopP B (0, ()) := by
  refine loop_n a.length (fun k => ((k : Int), ())) (fun k => ∀ j : Nat, j < k → rd a j = rd b j) rfl (by simp) (fun k hk hF next hn => ?_) fun hF next => ?_
  · refine hb k next hk (by omega) (fun e => hQ (fun h => e (by rw [h]))) fun e => hn fun j hj => ?_
    by_cases hjk : j = k
    · subst hjk; exact e
    · exact hF j (by omega)
  · exact he next (eq_of_takes hl hF)
end Go.V
set_option linter.unusedVariables false
namespace Go.V
def wp.impl_isWarpCount (x0 : Int) (Q : Bool → Prop) : Prop :=
  (∀ r21, r21 = M.impl_within x0 1 3 → Q r21)
def wp.impl_isMemory (xs0 : List Int) (Q : Bool → Prop) : Prop :=
  bcase (((xs0.length : Nat) : Int) == 32) ((M.impl_AreWords_pre xs0 ∧ ∀ r21, r21 = M.impl_AreWords xs0 → Q r21)) (Q false)
def wp.impl_areAllRegs (xs0 : List Int) (Q : Bool → Prop) : Prop :=
  Q (((xs0.length : Nat) : Int) == 32)
def wp.impl_areFrames (xs0 : List D.Frame) (x1 : Int) (Q : Bool → Prop) : Prop :=
  LoopP (σ := Int × Unit) (fun (p83 : Int × Unit) next25 => match p83 with | (i21, _) => bcase (decide (i21 < ((xs0.length : Nat) : Int))) (((0 ≤ i21 ∧ i21 < ((xs0.length : Nat) : Int)) ∧ (∀ r36, r36 = M.impl_within ((rd xs0 i21).Pc) 0 x1 → bcase (!r36) (Q false) ((∀ r41, r41 = M.impl_within ((rd xs0 i21).Stop) 0 x1 → bcase (!r41) (Q false) ((∀ r46, r46 = M.impl_IsMask ((rd xs0 i21).Mask) → bcase (!r46) (Q false) (bcase ((rd xs0 i21).Mask == 0) (Q false) (next25 ((IntKind.wrap .i64 (i21 + 1)), ())))))))))) (bcase (((xs0.length : Nat) : Int) == 0) (Q true) (((0 ≤ (IntKind.wrap .i64 (((xs0.length : Nat) : Int) - 1)) ∧ (IntKind.wrap .i64 (((xs0.length : Nat) : Int) - 1)) < ((xs0.length : Nat) : Int)) ∧ bcase (decide (((xs0.length : Nat) : Int) ≤ 24)) (bcase ((rd xs0 (IntKind.wrap .i64 (((xs0.length : Nat) : Int) - 1))).Pc != (rd xs0 (IntKind.wrap .i64 (((xs0.length : Nat) : Int) - 1))).Stop) (bcase ((rd xs0 (IntKind.wrap .i64 (((xs0.length : Nat) : Int) - 1))).Pc != x1) (((0 ≤ (0 : Int) ∧ (0 : Int) < ((xs0.length : Nat) : Int)) ∧ bcase ((rd xs0 0).Stop == x1) (((0 ≤ (0 : Int) ∧ (0 : Int) < ((xs0.length : Nat) : Int)) ∧ Q ((rd xs0 0).Mask == 255))) (Q false))) (Q false)) (Q false)) (Q false))))) (0, ())
def wp.impl_isWarpOf (xs0 : List D.Ins) (s1 : D.Warp) (Q : Bool → Prop) : Prop :=
  (∀ r23, r23 = M.impl_isWarpNumber s1.Number → bcase r23 ((∀ r28, r28 = M.impl_areAllRegs s1.Regs → bcase r28 ((M.impl_AreWords_pre s1.Regs ∧ ∀ r33, r33 = M.impl_AreWords s1.Regs → bcase r33 ((M.impl_areFrames_pre s1.Frames ((xs0.length : Nat) : Int) ∧ ∀ r38, r38 = M.impl_areFrames s1.Frames ((xs0.length : Nat) : Int) → Q r38)) (Q false))) (Q false))) (Q false))
def wp.impl_BlockOk (s0 : D.Block) (Q : Bool → Prop) : Prop :=
  (M.impl_ProgramOk_pre s0.Code ∧ ∀ r29, r29 = M.impl_ProgramOk s0.Code → bcase (!r29) (Q false) ((∀ r34, r34 = M.impl_isWarpCount ((s0.Warps.length : Nat) : Int) → bcase (!r34) (Q false) ((M.impl_isMemory_pre s0.Memory ∧ ∀ r39, r39 = M.impl_isMemory s0.Memory → bcase (!r39) (Q false) (((0 ≤ ((s0.Warps.length : Nat) : Int)) ∧ (∀ r45, r45 = M.impl_within s0.Waiting 0 (IntKind.wrap .i64 ((IntKind.wrap .i64 (1 * 2 ^ (min (((s0.Warps.length : Nat) : Int).toNat) (IntKind.bits .i64)))) - 2)) → bcase (!r45) (Q false) ((∀ r50, r50 = M.impl_within s0.Phase 0 100000 → bcase (!r50) (Q false) (LoopP (σ := Int × Unit) (fun (p92 : Int × Unit) next59 => match p92 with | (i55, _) => bcase (decide (i55 < ((s0.Warps.length : Nat) : Int))) (((0 ≤ i55 ∧ i55 < ((s0.Warps.length : Nat) : Int)) ∧ bcase ((rd s0.Warps i55).Number != i55) (Q false) ((M.impl_isWarpOf_pre s0.Code (rd s0.Warps i55) ∧ ∀ r81, r81 = M.impl_isWarpOf s0.Code (rd s0.Warps i55) → bcase (!r81) (Q false) (next59 ((IntKind.wrap .i64 (i55 + 1)), ())))))) (Q true)) (0, ()))))))))))))
end Go.V
set_option linter.unusedVariables false
set_option linter.unusedSimpArgs false
set_option maxRecDepth 20000
namespace Go.V
theorem last_wrap {n : Nat} (h : n ≤ 9223372036854775807) : IntKind.wrap .i64 ((n : Int) - 1) = (n : Int) - 1 := w64 (by omega) (by omega)
theorem frames_false {fs : List D.Frame} {n : Int} {k : Nat} (hk : k < fs.length) (h : M.frameOk n (rd fs (k : Int)) = false) : M.areFrames fs n = false := by
  have := all_false (g := M.frameOk n) hk h
  simp [M.areFrames, this]
theorem wp.impl_areFrames.math (fs : List D.Frame) (n : Int) (h : M.impl_areFrames_pre fs n) : wp.impl_areFrames fs n (fun r => r = M.impl_areFrames fs n) := by
  unfold wp.impl_areFrames
  have hl : fs.length ≤ 9223372036854775807 := h
  refine all_loop (g := M.frameOk n) (Q := fun r => r = M.areFrames fs n) h (fun k next hk h1 h2 => ?_) (fun next ha => ?_) fun ha => by simp [M.areFrames, ha]
  · refine bcase_t (by simp; omega) ⟨by omega, fun r hr => bcase_mk (fun e => ?_) fun e r2 hr2 => bcase_mk (fun e2 => ?_) fun e2 r3 hr3 => bcase_mk (fun e3 => ?_) fun e3 => bcase_mk (fun e4 => ?_) fun e4 => ?_⟩
    all_goals simp only [M.impl_within, M.impl_IsMask] at *
    · have := nt e hr
      exact (frames_false hk (by simp [M.frameOk, this])).symm
    · have := nt e2 hr2
      exact (frames_false hk (by simp [M.frameOk, this])).symm
    · have := nt e3 hr3
      exact (frames_false hk (by simp [M.frameOk, this])).symm
    · have e4 : (rd fs (k : Int)).Mask = 0 := by simpa using e4
      exact (frames_false hk (by simp [M.frameOk, e4])).symm
    · rw [up64 hk h]
      refine h2 ?_
      have e4 : (rd fs (k : Int)).Mask ≠ 0 := by simpa using e4
      simp [M.frameOk, nf e hr, nf e2 hr2, nf e3 hr3, e4]
  · refine bcase_f (by simp) (bcase_mk (fun e => ?_) fun e => ?_)
    · have : fs = [] := by simpa using e
      subst this; rfl
    have h0 : fs ≠ [] := by rintro rfl; simp at e
    have hpos : 0 < fs.length := List.length_pos_iff.2 h0
    have hA : M.areFrames fs n = M.endsOk fs n := by
      have : fs.isEmpty = false := by simpa using h0
      simp [M.areFrames, ha, this]
    show _
    simp only [M.impl_areFrames, hA, last_wrap hl]
    refine ⟨by omega, bcase_mk (fun e1 => bcase_mk (fun e2 => bcase_mk (fun e3 => ⟨by omega, bcase_mk (fun e4 => ⟨by omega, ?_⟩) fun e4 => ?_⟩) fun e3 => ?_) fun e2 => ?_) fun e1 => ?_⟩
    all_goals simp only [M.endsOk]
    all_goals change _ = (_ && ((rd fs (((fs.length : Nat) : Int) - 1)).Pc != (rd fs (((fs.length : Nat) : Int) - 1)).Stop && ((rd fs (((fs.length : Nat) : Int) - 1)).Pc != n && _)))
    · have e1 : fs.length ≤ 24 := by simp at e1; omega
      rw [e2, e3, e4]; simp [e1]
    · rw [e4]; simp
    · rw [e3]; simp
    · rw [e2]; simp
    · have e1 : ¬ fs.length ≤ 24 := by simp at e1; omega
      simp [e1]
theorem lenE {r : List Int} : (((r.length : Nat) : Int) == 32) = (r.length == 32) := by
  rw [Bool.eq_iff_iff]; simp; omega
theorem wp.impl_areAllRegs.math (r : List Int) : wp.impl_areAllRegs r (fun x => x = M.impl_areAllRegs r) := lenE
theorem wp.impl_isWarpCount.math (n : Int) : wp.impl_isWarpCount n (fun x => x = M.impl_isWarpCount n) := fun r hr => hr
theorem wp.impl_isMemory.math (m : List Int) (h : M.impl_isMemory_pre m) : wp.impl_isMemory m (fun x => x = M.impl_isMemory m) := by
  refine bcase_mk (fun e => ⟨h, fun r hr => ?_⟩) fun e => ?_
  · have : m.length = 32 := by simp at e; omega
    rw [hr]; simp [M.impl_isMemory, this, M.impl_AreWords]
  · have : ¬ m.length = 32 := by simp at e; omega
    simp [M.impl_isMemory, this]
theorem wp.impl_isWarpOf.math (p : List D.Ins) (x : D.Warp) (h : M.impl_isWarpOf_pre p x) : wp.impl_isWarpOf p x (fun r => r = M.impl_isWarpOf p x) := by
  obtain ⟨h1, h2⟩ := h
  refine fun r hr => bcase_mk (fun e r2 hr2 => bcase_mk (fun e2 => ⟨h2, fun r3 hr3 => bcase_mk (fun e3 => ⟨h1, fun r4 hr4 => ?_⟩) fun e3 => ?_⟩) fun e2 => ?_) fun e => ?_
  all_goals try simp only [M.impl_isWarpNumber, M.impl_areAllRegs, M.impl_AreWords, M.impl_areFrames, M.impl_isWarpOf, M.warpOf] at *
  · subst hr hr2 hr3 hr4; simp [e, e2, e3]
  · subst hr hr2 hr3; simp [e, e2, e3]
  · subst hr hr2; simp [e, e2]
  · subst hr; simp [e]
theorem warps_from (p : List D.Ins) (l : List D.Warp) (k : Nat) (hk : k < l.length) : M.warpsOk p k (l.drop k) = (M.warpAt p k (rd l (k : Int)) && M.warpsOk p (k + 1) (l.drop (k + 1))) := by
  rw [List.drop_eq_getElem_cons hk, rd_nat hk]; rfl
theorem warps_loop {p : List D.Ins} {l : List D.Warp} (hl : M.Long l) {B : (Int × Unit) → ((Int × Unit) → Prop) → Prop}
    (hb : ∀ (k : Nat) (next : (Int × Unit) → Prop), k < l.length → (M.warpAt p k (rd l (k : Int)) = false → false = M.warpsOk p 0 l) → (M.warpAt p k (rd l (k : Int)) = true → next (((k + 1 : Nat) : Int), ())) → B ((k : Int), ()) next)
    (he : ∀ (next : (Int × Unit) → Prop), true = M.warpsOk p 0 l → B ((l.length : Int), ()) next) : LoopP B (0, ()) := by
  refine loop_n l.length (fun k => ((k : Int), ())) (fun k => M.warpsOk p 0 l = M.warpsOk p k (l.drop k)) rfl rfl (fun k hk hF next hn => ?_) fun hF next => ?_
  · rw [warps_from p l k hk] at hF
    refine hb k next hk (fun e => by rw [hF, e]; rfl) fun e => hn (by rw [hF, e]; rfl)
  · refine he next ?_
    rw [hF, List.drop_length]; rfl
theorem wp.impl_BlockOk.math (b : D.Block) (h : M.impl_BlockOk_pre b) : wp.impl_BlockOk b (fun r => r = M.impl_BlockOk b) := by
  obtain ⟨h1, ⟨h2, hW⟩, h3⟩ := h
  refine ⟨h1, fun r hr => bcase_mk (fun e => ?_) fun e r2 hr2 => bcase_mk (fun e2 => ?_) fun e2 => ⟨h3, fun r4 hr4 => bcase_mk (fun e4 => ?_) fun e4 => ⟨by omega, fun r5 hr5 => bcase_mk (fun e5 => ?_) fun e5 r6 hr6 => bcase_mk (fun e6 => ?_) fun e6 => ?_⟩⟩⟩
  all_goals simp only [M.impl_ProgramOk, M.impl_isWarpCount, M.impl_within] at *
  all_goals simp only [M.impl_BlockOk, M.blockOk]
  · rw [nt e hr]; rfl
  · rw [nt e2 hr2]; simp
  · rw [nt e4 hr4]; simp
  · have := nt e5 hr5
    unfold M.waitTop; rw [this]; simp
  · rw [nt e6 hr6]; simp
  have h5 := nf e5 hr5
  unfold M.waitTop
  rw [nf e hr, nf e2 hr2, nf e4 hr4, h5, nf e6 hr6]
  simp only [Bool.true_and]
  refine warps_loop h2 (fun k next hk g1 g2 => ?_) fun next hh => bcase_f (by simp) hh
  refine bcase_t (by simp; omega) ⟨by omega, bcase_mk (fun e2 => ?_) fun e2 => ⟨hW _ (rd_mem hk), fun r hr => bcase_mk (fun e => ?_) fun e => ?_⟩⟩
  all_goals simp only [M.impl_isWarpOf] at *
  · have e2 : (rd b.Warps (k : Int)).Number ≠ (k : Int) := by simpa using e2
    exact g1 (by simp [M.warpAt, e2])
  · exact g1 (by simp [M.warpAt, nt e hr])
  · have e2 : (rd b.Warps (k : Int)).Number = (k : Int) := by simpa using e2
    rw [up64 hk h2]; exact g2 (by simp [M.warpAt, e2, nf e hr])
end Go.V
set_option linter.unusedVariables false
namespace Go.V
def wp.slices_Equal_impl_Ins_impl_Ins (xs0 : List D.Ins) (xs1 : List D.Ins) (Q : Bool → Prop) : Prop :=
  bcase (((xs0.length : Nat) : Int) != ((xs1.length : Nat) : Int)) (Q false) (LoopP (σ := Int × Unit) (fun (p43 : Int × Unit) next25 => match p43 with | (i21, _) => bcase (decide (i21 < ((xs0.length : Nat) : Int))) (((0 ≤ i21 ∧ i21 < ((xs0.length : Nat) : Int)) ∧ ((0 ≤ i21 ∧ i21 < ((xs1.length : Nat) : Int)) ∧ bcase (!(((rd xs0 i21).Op == (rd xs1 i21).Op) && ((rd xs0 i21).A == (rd xs1 i21).A) && ((rd xs0 i21).B == (rd xs1 i21).B) && ((rd xs0 i21).C == (rd xs1 i21).C))) (Q false) (next25 ((IntKind.wrap .i64 (i21 + 1)), ()))))) (Q true)) (0, ()))
def wp.slices_EqualFunc_impl_Warp_impl_Warp_impl_Warp_impl_Warp (xs0 : List D.Warp) (xs1 : List D.Warp) (g2 : D.Warp → D.Warp → Bool) (D2 : D.Warp → D.Warp → Prop) (Q : Bool → Prop) : Prop :=
  bcase (((xs0.length : Nat) : Int) != ((xs1.length : Nat) : Int)) (Q false) (LoopP (σ := Int × Unit) (fun (p77 : Int × Unit) next25 => match p77 with | (i21, _) => bcase (decide (i21 < ((xs0.length : Nat) : Int))) (((0 ≤ i21 ∧ i21 < ((xs0.length : Nat) : Int)) ∧ ((0 ≤ i21 ∧ i21 < ((xs1.length : Nat) : Int)) ∧ (D2 (rd xs0 i21) (rd xs1 i21) ∧ ∀ r67, r67 = g2 (rd xs0 i21) (rd xs1 i21) → bcase (!r67) (Q false) (next25 ((IntKind.wrap .i64 (i21 + 1)), ())))))) (Q true)) (0, ()))
def wp.slices_Equal_impl_Frame_impl_Frame (xs0 : List D.Frame) (xs1 : List D.Frame) (Q : Bool → Prop) : Prop :=
  bcase (((xs0.length : Nat) : Int) != ((xs1.length : Nat) : Int)) (Q false) (LoopP (σ := Int × Unit) (fun (p43 : Int × Unit) next25 => match p43 with | (i21, _) => bcase (decide (i21 < ((xs0.length : Nat) : Int))) (((0 ≤ i21 ∧ i21 < ((xs0.length : Nat) : Int)) ∧ ((0 ≤ i21 ∧ i21 < ((xs1.length : Nat) : Int)) ∧ bcase (!(((rd xs0 i21).Pc == (rd xs1 i21).Pc) && ((rd xs0 i21).Stop == (rd xs1 i21).Stop) && ((rd xs0 i21).Mask == (rd xs1 i21).Mask))) (Q false) (next25 ((IntKind.wrap .i64 (i21 + 1)), ()))))) (Q true)) (0, ()))
def wp.slices_Equal_int_int (xs0 : List Int) (xs1 : List Int) (Q : Bool → Prop) : Prop :=
  bcase (((xs0.length : Nat) : Int) != ((xs1.length : Nat) : Int)) (Q false) (LoopP (σ := Int × Unit) (fun (p43 : Int × Unit) next25 => match p43 with | (i21, _) => bcase (decide (i21 < ((xs0.length : Nat) : Int))) (((0 ≤ i21 ∧ i21 < ((xs0.length : Nat) : Int)) ∧ ((0 ≤ i21 ∧ i21 < ((xs1.length : Nat) : Int)) ∧ bcase ((rd xs0 i21) != (rd xs1 i21)) (Q false) (next25 ((IntKind.wrap .i64 (i21 + 1)), ()))))) (Q true)) (0, ()))
def wp.impl_SameWarp (s0 : D.Warp) (s1 : D.Warp) (Q : Bool → Prop) : Prop :=
  bcase (s0.Number == s1.Number) ((M.slices_Equal_impl_Frame_impl_Frame_pre s0.Frames s1.Frames ∧ ∀ r25, r25 = M.slices_Equal_impl_Frame_impl_Frame s0.Frames s1.Frames → bcase r25 ((M.slices_Equal_int_int_pre s0.Regs s1.Regs ∧ ∀ r30, r30 = M.slices_Equal_int_int s0.Regs s1.Regs → Q r30)) (Q false))) (Q false)
def wp.impl_SameBlock (s0 : D.Block) (s1 : D.Block) (Q : Bool → Prop) : Prop :=
  (M.slices_Equal_impl_Ins_impl_Ins_pre s0.Code s1.Code ∧ ∀ r25, r25 = M.slices_Equal_impl_Ins_impl_Ins s0.Code s1.Code → bcase r25 ((M.slices_EqualFunc_impl_Warp_impl_Warp_impl_Warp_impl_Warp_pre s0.Warps s1.Warps (fun z0_ z1_ => M.impl_SameWarp z0_ z1_) (fun z0_ z1_ => M.impl_SameWarp_pre z0_ z1_) ∧ ∀ r30, r30 = M.slices_EqualFunc_impl_Warp_impl_Warp_impl_Warp_impl_Warp s0.Warps s1.Warps (fun z0_ z1_ => M.impl_SameWarp z0_ z1_) → bcase r30 ((M.slices_Equal_int_int_pre s0.Memory s1.Memory ∧ ∀ r35, r35 = M.slices_Equal_int_int s0.Memory s1.Memory → bcase r35 (bcase (s0.Waiting == s1.Waiting) (Q (s0.Phase == s1.Phase)) (Q false)) (Q false))) (Q false))) (Q false))
end Go.V
set_option linter.unusedVariables false
set_option linter.unusedSimpArgs false
set_option maxRecDepth 20000
namespace Go.V
theorem insB (a b : D.Ins) : ((a.Op == b.Op) && (a.A == b.A) && (a.B == b.B) && (a.C == b.C)) = (a == b) := by
  cases a; cases b; rw [Bool.eq_iff_iff]; simp [and_assoc]
theorem frameB (a b : D.Frame) : ((a.Pc == b.Pc) && (a.Stop == b.Stop) && (a.Mask == b.Mask)) = (a == b) := by
  cases a; cases b; rw [Bool.eq_iff_iff]; simp [and_assoc]
theorem same_loop {α : Type} [Inhabited α] [BEq α] [LawfulBEq α] {a b : List α} (ha : M.Long a) {Q : Bool → Prop} {B : (Int × Unit) → ((Int × Unit) → Prop) → Prop}
    (hb : a.length = b.length → ∀ (k : Nat) (next : (Int × Unit) → Prop), k < a.length → k < b.length → (rd a (k : Int) ≠ rd b (k : Int) → Q false) → (rd a (k : Int) = rd b (k : Int) → next (((k + 1 : Nat) : Int), ())) → B ((k : Int), ()) next)
    (he : ∀ (next : (Int × Unit) → Prop), a = b → B ((a.length : Int), ()) next) (hQ : a ≠ b → Q false) : bcase (((a.length : Nat) : Int) != ((b.length : Nat) : Int)) (Q false) (LoopP B (0, ())) := by
  refine bcase_mk (fun e => hQ ?_) fun e => ?_
  · rintro rfl; simp at e
  · have hl : a.length = b.length := by simp at e; omega
    exact eq_loop ha hl (hb hl) he hQ
theorem wp.slices_Equal_impl_Ins_impl_Ins.math (a b : List D.Ins) (h : M.slices_Equal_impl_Ins_impl_Ins_pre a b) : wp.slices_Equal_impl_Ins_impl_Ins a b (fun r => r = M.slices_Equal_impl_Ins_impl_Ins a b) := by
  unfold wp.slices_Equal_impl_Ins_impl_Ins
  simp only [insB]
  refine same_loop h (Q := fun r => r = M.slices_Equal_impl_Ins_impl_Ins a b) (fun hl k next hk hk' h1 h2 => ?_) (fun next e => bcase_f (by simp) (by simp [M.slices_Equal_impl_Ins_impl_Ins, e])) fun hne => by simp [M.slices_Equal_impl_Ins_impl_Ins, hne]
  refine bcase_t (by simp; omega) ⟨by omega, by omega, bcase_mk (fun e => h1 (by simpa using e)) fun e => ?_⟩
  rw [up64 hk h]; exact h2 (by simpa using e)
theorem wp.slices_Equal_impl_Frame_impl_Frame.math (a b : List D.Frame) (h : M.slices_Equal_impl_Frame_impl_Frame_pre a b) : wp.slices_Equal_impl_Frame_impl_Frame a b (fun r => r = M.slices_Equal_impl_Frame_impl_Frame a b) := by
  unfold wp.slices_Equal_impl_Frame_impl_Frame
  simp only [frameB]
  refine same_loop h (Q := fun r => r = M.slices_Equal_impl_Frame_impl_Frame a b) (fun hl k next hk hk' h1 h2 => ?_) (fun next e => bcase_f (by simp) (by simp [M.slices_Equal_impl_Frame_impl_Frame, e])) fun hne => by simp [M.slices_Equal_impl_Frame_impl_Frame, hne]
  refine bcase_t (by simp; omega) ⟨by omega, by omega, bcase_mk (fun e => h1 (by simpa using e)) fun e => ?_⟩
  rw [up64 hk h]; exact h2 (by simpa using e)
theorem wp.slices_Equal_int_int.math (a b : List Int) (h : M.slices_Equal_int_int_pre a b) : wp.slices_Equal_int_int a b (fun r => r = M.slices_Equal_int_int a b) := by
  unfold wp.slices_Equal_int_int
  refine same_loop h (Q := fun r => r = M.slices_Equal_int_int a b) (fun hl k next hk hk' h1 h2 => ?_) (fun next e => bcase_f (by simp) (by simp [M.slices_Equal_int_int, e])) fun hne => by simp [M.slices_Equal_int_int, hne]
  refine bcase_t (by simp; omega) ⟨by omega, by omega, bcase_mk (fun e => h1 (by simpa using e)) fun e => ?_⟩
  rw [up64 hk h]; exact h2 (by simpa using e)
theorem warp_ne {a b : D.Warp} (h : a.Number ≠ b.Number ∨ a.Frames ≠ b.Frames ∨ a.Regs ≠ b.Regs) : (a == b) = false := by
  refine beq_eq_false_iff_ne.2 ?_
  rintro rfl
  simp at h
theorem warp_eq {a b : D.Warp} (h1 : a.Number = b.Number) (h2 : a.Frames = b.Frames) (h3 : a.Regs = b.Regs) : (a == b) = true := by
  cases a; cases b; simp at *; exact ⟨h1, h2, h3⟩
theorem block_ne {a b : D.Block} (h : a.Code ≠ b.Code ∨ a.Warps ≠ b.Warps ∨ a.Memory ≠ b.Memory ∨ a.Waiting ≠ b.Waiting ∨ a.Phase ≠ b.Phase) : (a == b) = false := by
  refine beq_eq_false_iff_ne.2 ?_
  rintro rfl
  simp at h
theorem block_eq {a b : D.Block} (h1 : a.Code = b.Code) (h2 : a.Warps = b.Warps) (h3 : a.Memory = b.Memory) (h4 : a.Waiting = b.Waiting) (h5 : a.Phase = b.Phase) : (a == b) = true := by
  cases a; cases b; simp at *; exact ⟨h1, h2, h3, h4, h5⟩
theorem two_from (g : D.Warp → D.Warp → Bool) (a b : List D.Warp) (k : Nat) (hk : k < a.length) (hk' : k < b.length) : M.allTwo g (a.drop k) (b.drop k) = (g (rd a (k : Int)) (rd b (k : Int)) && M.allTwo g (a.drop (k + 1)) (b.drop (k + 1))) := by
  rw [List.drop_eq_getElem_cons hk, List.drop_eq_getElem_cons hk', rd_nat hk, rd_nat hk']; rfl
theorem two_len (g : D.Warp → D.Warp → Bool) : ∀ (a b : List D.Warp), a.length ≠ b.length → M.allTwo g a b = false
  | [], [], h => by simp at h
  | [], y :: b, h => rfl
  | x :: a, [], h => rfl
  | x :: a, y :: b, h => by
    simp only [M.allTwo, two_len g a b (by simpa using h), Bool.and_false]
theorem wp.slices_EqualFunc_impl_Warp_impl_Warp_impl_Warp_impl_Warp.math (a b : List D.Warp) (g : D.Warp → D.Warp → Bool) (D : D.Warp → D.Warp → Prop) (h : M.slices_EqualFunc_impl_Warp_impl_Warp_impl_Warp_impl_Warp_pre a b g D) :
    wp.slices_EqualFunc_impl_Warp_impl_Warp_impl_Warp_impl_Warp a b g D (fun r => r = M.slices_EqualFunc_impl_Warp_impl_Warp_impl_Warp_impl_Warp a b g) := by
  obtain ⟨h1, h2⟩ := h
  refine bcase_mk (fun e => ?_) fun e => ?_
  · exact (two_len g a b (by simp at e; omega)).symm
  have hl : a.length = b.length := by simp at e; omega
  refine loop_n a.length (fun k => ((k : Int), ())) (fun k => M.allTwo g a b = M.allTwo g (a.drop k) (b.drop k)) rfl rfl (fun k hk hF next hn => ?_) fun hF next => ?_
  · rw [two_from g a b k hk (by omega)] at hF
    refine bcase_t (by simp; omega) ⟨by omega, by omega, h2 _ (rd_mem hk) _, fun r hr => bcase_mk (fun e => ?_) fun e => ?_⟩
    · show false = M.allTwo g a b
      rw [hF, nt e hr]; rfl
    · rw [up64 hk h1]
      exact hn (by rw [hF, nf e hr]; rfl)
  · refine bcase_f (by simp) ?_
    show true = M.allTwo g a b
    rw [hF, List.drop_length, hl, List.drop_length]; rfl
theorem wp.impl_SameWarp.math (a b : D.Warp) (h : M.impl_SameWarp_pre a b) : wp.impl_SameWarp a b (fun r => r = M.impl_SameWarp a b) := by
  obtain ⟨h1, h2⟩ := h
  refine bcase_mk (fun e => ⟨h1, fun r hr => bcase_mk (fun e2 => ⟨h2, fun r3 hr3 => ?_⟩) fun e2 => ?_⟩) fun e => ?_
  · have e : a.Number = b.Number := by simpa using e
    have e2 : a.Frames = b.Frames := by have := hr.symm.trans e2; simpa [M.slices_Equal_impl_Frame_impl_Frame] using this
    by_cases e3 : a.Regs = b.Regs
    · rw [hr3, show M.impl_SameWarp a b = true from warp_eq e e2 e3]; simp [M.slices_Equal_int_int, e3]
    · rw [hr3, show M.impl_SameWarp a b = false from warp_ne (.inr (.inr e3))]; simp [M.slices_Equal_int_int, e3]
  · have := hr.symm.trans e2
    exact (warp_ne (.inr (.inl (by simpa [M.slices_Equal_impl_Frame_impl_Frame] using this)))).symm
  · exact (warp_ne (.inl (by simpa using e))).symm
theorem two_eq : ∀ (a b : List D.Warp), M.allTwo (fun x y => M.impl_SameWarp x y) a b = (a == b)
  | [], [] => rfl
  | [], y :: b => rfl
  | x :: a, [] => rfl
  | x :: a, y :: b => by
    rw [M.allTwo, two_eq a b]
    show ((x == y) && (a == b)) = _
    rw [Bool.eq_iff_iff]; simp
theorem wp.impl_SameBlock.math (a b : D.Block) (h : M.impl_SameBlock_pre a b) : wp.impl_SameBlock a b (fun r => r = M.impl_SameBlock a b) := by
  obtain ⟨h1, ⟨h2, hW⟩, h3⟩ := h
  refine ⟨h1, fun r hr => bcase_mk (fun e => ⟨⟨h2, fun x hx y => hW x hx⟩, fun r2 hr2 => bcase_mk (fun e2 => ⟨h3, fun r3 hr3 => bcase_mk (fun e3 => bcase_mk (fun e4 => ?_) fun e4 => ?_) fun e3 => ?_⟩) fun e2 => ?_⟩) fun e => ?_⟩
  all_goals try simp only [M.slices_EqualFunc_impl_Warp_impl_Warp_impl_Warp_impl_Warp, two_eq] at hr2
  all_goals try simp only [M.slices_Equal_impl_Ins_impl_Ins] at hr
  all_goals try simp only [M.slices_Equal_int_int] at hr3
  · have k1 : a.Code = b.Code := by have := hr.symm.trans e; simpa using this
    have k2 : a.Warps = b.Warps := by have := hr2.symm.trans e2; simpa using this
    have k3 : a.Memory = b.Memory := by have := hr3.symm.trans e3; simpa using this
    have k4 : a.Waiting = b.Waiting := by simpa using e4
    by_cases k5 : a.Phase = b.Phase
    · rw [show M.impl_SameBlock a b = true from block_eq k1 k2 k3 k4 k5]; simp [k5]
    · rw [show M.impl_SameBlock a b = false from block_ne (.inr (.inr (.inr (.inr k5))))]; simp [k5]
  · exact (block_ne (.inr (.inr (.inr (.inl (by simpa using e4)))))).symm
  · exact (block_ne (.inr (.inr (.inl (by have := hr3.symm.trans e3; simpa using this))))).symm
  · exact (block_ne (.inr (.inl (by have := hr2.symm.trans e2; simpa using this)))).symm
  · exact (block_ne (.inl (by have := hr.symm.trans e; simpa using this))).symm
end Go.V
set_option linter.unusedVariables false
namespace Go.V
def wp.slices_Clone_impl_Ins_impl_Ins (xs0 : List D.Ins) (Q : (List D.Ins) → Prop) : Prop :=
  (∀ b21 : Bool, (b21 = true → xs0 = []) → bcase b21 (Q ([] : List D.Ins)) (((([] : List D.Ins).length + xs0.length ≤ 17179869184) ∧ Q (([] : List D.Ins) ++ xs0))))
def wp.impl_newWarp (xs0 : List D.Ins) (x1 : Int) (Q : D.Warp → Prop) : Prop :=
  ((0 ≤ (32 : Int) ∧ (32 : Int) ≤ 17179869184) ∧ bcase (decide (((xs0.length : Nat) : Int) > 0)) (Q (⟨x1, ([(⟨0, ((xs0.length : Nat) : Int), 255⟩ : D.Frame)] : List D.Frame), (List.replicate ((32 : Int).toNat) (default : Int))⟩ : D.Warp)) (Q (⟨x1, ([] : List D.Frame), (List.replicate ((32 : Int).toNat) (default : Int))⟩ : D.Warp)))
def wp.impl_newBlock (xs0 : List D.Ins) (x1 : Int) (Q : D.Block → Prop) : Prop :=
  JoinP (σ := (List D.Ins) × (List D.Warp) × (List Int) × Int × Int × Unit) (fun J35 => (((M.slices_Clone_impl_Ins_impl_Ins_pre xs0 ∧ ∀ r39, r39 = M.slices_Clone_impl_Ins_impl_Ins xs0 → ((((0 ≤ (32 : Int) ∧ (32 : Int) ≤ 17179869184) ∧ J35 (r39, [], (List.replicate ((32 : Int).toNat) (default : Int)), 0, 0, ()))) ∧ (((0 ≤ (32 : Int) ∧ (32 : Int) ≤ 17179869184) ∧ J35 (r39, [], (List.replicate ((32 : Int).toNat) (default : Int)), 0, 0, ()))) ∧ True))) ∧ (((0 ≤ (32 : Int) ∧ (32 : Int) ≤ 17179869184) ∧ (((M.slices_Clone_impl_Ins_impl_Ins_pre xs0 ∧ ∀ r69, r69 = M.slices_Clone_impl_Ins_impl_Ins xs0 → J35 (r69, [], (List.replicate ((32 : Int).toNat) (default : Int)), 0, 0, ()))) ∧ ((M.slices_Clone_impl_Ins_impl_Ins_pre xs0 ∧ ∀ r82, r82 = M.slices_Clone_impl_Ins_impl_Ins xs0 → J35 (r82, [], (List.replicate ((32 : Int).toNat) (default : Int)), 0, 0, ()))) ∧ True))) ∧ ((((M.slices_Clone_impl_Ins_impl_Ins_pre xs0 ∧ ∀ r93, r93 = M.slices_Clone_impl_Ins_impl_Ins xs0 → ((0 ≤ (32 : Int) ∧ (32 : Int) ≤ 17179869184) ∧ J35 (r93, [], (List.replicate ((32 : Int).toNat) (default : Int)), 0, 0, ())))) ∧ (((0 ≤ (32 : Int) ∧ (32 : Int) ≤ 17179869184) ∧ (M.slices_Clone_impl_Ins_impl_Ins_pre xs0 ∧ ∀ r112, r112 = M.slices_Clone_impl_Ins_impl_Ins xs0 → J35 (r112, [], (List.replicate ((32 : Int).toNat) (default : Int)), 0, 0, ())))) ∧ True)) ∧ True)) (fun (p301 : (List D.Ins) × (List D.Warp) × (List Int) × Int × Int × Unit) => match p301 with | (xs23, xs27, xs30, i33, i34, _) => LoopP (σ := Int × (List D.Warp) × Int × Int × Unit) (fun (p297 : Int × (List D.Warp) × Int × Int × Unit) next242 => match p297 with | (i232, xs234, i237, i238, _) => bcase (decide (i232 < x1)) ((M.impl_newWarp_pre xs0 i232 ∧ ∀ r267, r267 = M.impl_newWarp xs0 i232 → ((xs234.length + ([r267] : List D.Warp).length ≤ 17179869184) ∧ next242 ((IntKind.wrap .i64 (i232 + 1)), (xs234 ++ ([r267] : List D.Warp)), i237, i238, ())))) (Q (⟨xs23, xs234, xs30, i237, i238⟩ : D.Block))) (0, xs27, i33, i34, ()))
def wp.impl_BlockNew (xs0 : List D.Ins) (x1 : Int) (Q : (D.Block × Bool) → Prop) : Prop :=
  (M.impl_ProgramOk_pre xs0 ∧ ∀ r23, r23 = M.impl_ProgramOk xs0 → bcase (!r23) (Q ((⟨([] : List D.Ins), ([] : List D.Warp), ([] : List Int), 0, 0⟩ : D.Block), false)) ((∀ r30, r30 = M.impl_isWarpCount x1 → bcase (!r30) (Q ((⟨([] : List D.Ins), ([] : List D.Warp), ([] : List Int), 0, 0⟩ : D.Block), false)) ((M.impl_newBlock_pre xs0 x1 ∧ ∀ r37, r37 = M.impl_newBlock xs0 x1 → Q ((⟨r37.Code, r37.Warps, r37.Memory, r37.Waiting, r37.Phase⟩ : D.Block), true))))))
def wp.slices_Clone_impl_Frame_impl_Frame (xs0 : List D.Frame) (Q : (List D.Frame) → Prop) : Prop :=
  (∀ b21 : Bool, (b21 = true → xs0 = []) → bcase b21 (Q ([] : List D.Frame)) (((([] : List D.Frame).length + xs0.length ≤ 17179869184) ∧ Q (([] : List D.Frame) ++ xs0))))
def wp.impl_copyWarp (s0 : D.Warp) (Q : D.Warp → Prop) : Prop :=
  (((((M.slices_Clone_impl_Frame_impl_Frame_pre s0.Frames ∧ ∀ r25, r25 = M.slices_Clone_impl_Frame_impl_Frame s0.Frames → (M.slices_Clone_int_int_pre s0.Regs ∧ ∀ r32, r32 = M.slices_Clone_int_int s0.Regs → Q (⟨s0.Number, r25, r32⟩ : D.Warp)))) ∧ ((M.slices_Clone_impl_Frame_impl_Frame_pre s0.Frames ∧ ∀ r45, r45 = M.slices_Clone_impl_Frame_impl_Frame s0.Frames → (M.slices_Clone_int_int_pre s0.Regs ∧ ∀ r52, r52 = M.slices_Clone_int_int s0.Regs → Q (⟨s0.Number, r45, r52⟩ : D.Warp)))) ∧ True)) ∧ ((M.slices_Clone_impl_Frame_impl_Frame_pre s0.Frames ∧ ∀ r65, r65 = M.slices_Clone_impl_Frame_impl_Frame s0.Frames → (M.slices_Clone_int_int_pre s0.Regs ∧ ∀ r72, r72 = M.slices_Clone_int_int s0.Regs → Q (⟨s0.Number, r65, r72⟩ : D.Warp)))) ∧ True)
def wp.impl_copyBlock (s0 : D.Block) (Q : D.Block → Prop) : Prop :=
  JoinP (σ := (List D.Ins) × (List D.Warp) × (List Int) × Int × Int × Unit) (fun J37 => (((M.slices_Clone_impl_Ins_impl_Ins_pre s0.Code ∧ ∀ r41, r41 = M.slices_Clone_impl_Ins_impl_Ins s0.Code → (((M.slices_Clone_int_int_pre s0.Memory ∧ ∀ r48, r48 = M.slices_Clone_int_int s0.Memory → J37 (r41, [], r48, s0.Waiting, s0.Phase, ()))) ∧ ((M.slices_Clone_int_int_pre s0.Memory ∧ ∀ r61, r61 = M.slices_Clone_int_int s0.Memory → J37 (r41, [], r61, s0.Waiting, s0.Phase, ()))) ∧ True))) ∧ ((M.slices_Clone_impl_Ins_impl_Ins_pre s0.Code ∧ ∀ r72, r72 = M.slices_Clone_impl_Ins_impl_Ins s0.Code → (M.slices_Clone_int_int_pre s0.Memory ∧ ∀ r79, r79 = M.slices_Clone_int_int s0.Memory → J37 (r72, [], r79, s0.Waiting, s0.Phase, ())))) ∧ True)) (fun (p328 : (List D.Ins) × (List D.Warp) × (List Int) × Int × Int × Unit) => match p328 with | (xs25, xs29, xs32, i35, i36, _) => LoopP (σ := Int × (List D.Warp) × Int × Int × Unit) (fun (p324 : Int × (List D.Warp) × Int × Int × Unit) next249 => match p324 with | (i239, xs241, i244, i245, _) => bcase (decide (i239 < ((s0.Warps.length : Nat) : Int))) (((0 ≤ i239 ∧ i239 < ((s0.Warps.length : Nat) : Int)) ∧ (M.impl_copyWarp_pre (rd s0.Warps i239) ∧ ∀ r294, r294 = M.impl_copyWarp (rd s0.Warps i239) → ((xs241.length + ([r294] : List D.Warp).length ≤ 17179869184) ∧ next249 ((IntKind.wrap .i64 (i239 + 1)), (xs241 ++ ([r294] : List D.Warp)), i244, i245, ()))))) (Q (⟨xs25, xs241, xs32, i244, i245⟩ : D.Block))) (0, xs29, i35, i36, ()))
def wp.impl_WithMemory (s0 : D.Block) (xs1 : List Int) (Q : (D.Block × Bool) → Prop) : Prop :=
  (M.impl_copyBlock_pre s0 ∧ ∀ r25, r25 = M.impl_copyBlock s0 → (M.impl_BlockOk_pre s0 ∧ ∀ r41, r41 = M.impl_BlockOk s0 → bcase (!r41) (Q ((⟨r25.Code, r25.Warps, r25.Memory, r25.Waiting, r25.Phase⟩ : D.Block), false)) ((M.impl_isMemory_pre xs1 ∧ ∀ r48, r48 = M.impl_isMemory xs1 → bcase (!r48) (Q ((⟨r25.Code, r25.Warps, r25.Memory, r25.Waiting, r25.Phase⟩ : D.Block), false)) ((M.slices_Clone_int_int_pre xs1 ∧ ∀ r55, r55 = M.slices_Clone_int_int xs1 → Q ((⟨r25.Code, r25.Warps, r55, r25.Waiting, r25.Phase⟩ : D.Block), true)))))))
end Go.V
set_option linter.unusedVariables false
set_option linter.unusedVariables false
set_option linter.unusedSimpArgs false
set_option maxRecDepth 20000
namespace Go.V
theorem wp.slices_Clone_impl_Ins_impl_Ins.math (l : List D.Ins) (h : M.slices_Clone_impl_Ins_impl_Ins_pre l) : wp.slices_Clone_impl_Ins_impl_Ins l (fun r => r = M.slices_Clone_impl_Ins_impl_Ins l) := by
  intro b hb
  refine bcase_mk (fun e => ?_) fun e => ⟨by simp only [List.length_nil, Nat.zero_add]; exact h, ?_⟩
  · rw [hb e]; rfl
  · simp [M.slices_Clone_impl_Ins_impl_Ins]
theorem wp.slices_Clone_impl_Frame_impl_Frame.math (l : List D.Frame) (h : M.slices_Clone_impl_Frame_impl_Frame_pre l) : wp.slices_Clone_impl_Frame_impl_Frame l (fun r => r = M.slices_Clone_impl_Frame_impl_Frame l) := by
  intro b hb
  refine bcase_mk (fun e => ?_) fun e => ⟨by simp only [List.length_nil, Nat.zero_add]; exact h, ?_⟩
  · rw [hb e]; rfl
  · simp [M.slices_Clone_impl_Frame_impl_Frame]
theorem newWarp_eq (p : List D.Ins) (n : Int) : bcase (decide (((p.length : Nat) : Int) > 0)) ((⟨n, [⟨0, ((p.length : Nat) : Int), 255⟩], List.replicate ((32 : Int).toNat) (default : Int)⟩ : D.Warp) = M.newWarp p n) ((⟨n, [], List.replicate ((32 : Int).toNat) (default : Int)⟩ : D.Warp) = M.newWarp p n) := by
  refine bcase_mk (fun e => ?_) fun e => ?_
  · have e3 : p.length > 0 := by simp only [decide_eq_true_eq] at e; omega
    unfold M.newWarp; rw [if_pos e3]; rfl
  · have e3 : ¬ p.length > 0 := by simp only [decide_eq_false_iff_not] at e; omega
    unfold M.newWarp; rw [if_neg e3]; rfl
theorem wp.impl_newWarp.math (p : List D.Ins) (n : Int) (h : M.impl_newWarp_pre p n) : wp.impl_newWarp p n (fun r => r = M.impl_newWarp p n) := ⟨by omega, newWarp_eq p n⟩
theorem joinP_of {σ : Type} {A : (σ → Prop) → Prop} {B : σ → Prop} (v : σ) (h : B v) (hA : ∀ J : σ → Prop, J v → A J) : JoinP A B := hA B h
theorem range_succ_map {α : Type} (g : Nat → α) (k : Nat) : (List.range (k + 1)).map g = (List.range k).map g ++ [g k] := by simp [List.range_succ]
theorem wp.impl_newBlock.math (p : List D.Ins) (c : Int) (h : M.impl_newBlock_pre p c) : wp.impl_newBlock p c (fun r => r = M.impl_newBlock p c) := by
  obtain ⟨hp, h0, h1⟩ := h
  unfold wp.impl_newBlock
  simp only [M.slices_Clone_impl_Ins_impl_Ins, forall_eq]
  have q1 : M.slices_Clone_impl_Ins_impl_Ins_pre p := hp
  refine joinP_of (p, [], List.replicate 32 0, 0, 0, ()) ?_ fun J hJ => ?_
  · refine loop_n c.toNat (fun k => ((k : Int), (List.range k).map (fun j : Nat => M.newWarp p (j : Int)), 0, 0, ())) (fun _ => True) rfl trivial (fun k hk _ next hn => ?_) fun _ next => ?_
    · refine bcase_t (by simp; omega) ⟨trivial, by simp; omega, ?_⟩
      have := hn trivial
      rw [range_succ_map] at this
      rw [up64 hk (by omega)]
      exact this
    · exact bcase_f (by simp; omega) rfl
  · have hm : (0 ≤ (32 : Int) ∧ (32 : Int) ≤ 17179869184) := by omega
    exact ⟨⟨q1, ⟨hm, hJ⟩, ⟨hm, hJ⟩, trivial⟩, ⟨hm, ⟨q1, hJ⟩, ⟨q1, hJ⟩, trivial⟩, ⟨⟨q1, hm, hJ⟩, ⟨hm, q1, hJ⟩, trivial⟩, trivial⟩
theorem prog_short {p : List D.Ins} (h : M.programOk p = true) : p.length ≤ 32 := by
  simp only [M.programOk, Bool.and_eq_true, decide_eq_true_eq] at h
  exact h.1
theorem wp.impl_BlockNew.math (p : List D.Ins) (c : Int) (h : M.impl_BlockNew_pre p c) : wp.impl_BlockNew p c (fun r => r = M.impl_BlockNew p c) := by
  refine ⟨h, fun r hr => bcase_mk (fun e => ?_) fun e r2 hr2 => bcase_mk (fun e2 => ?_) fun e2 => ?_⟩
  all_goals simp only [M.impl_ProgramOk, M.impl_isWarpCount] at *
  · simp [M.impl_BlockNew, M.blockNew, nt e hr, M.noBlock]
  · simp [M.impl_BlockNew, M.blockNew, nt e2 hr2, M.noBlock]
  · have h1 := nf e hr
    have h2 := nf e2 hr2
    have h3 := prog_short h1
    have h4 : 1 ≤ c ∧ c ≤ 3 := by simpa [M.isIn] using h2
    refine ⟨⟨by omega, by omega, by omega⟩, fun r3 hr3 => ?_⟩
    rw [hr3]; simp [M.impl_BlockNew, M.blockNew, h1, h2, M.impl_newBlock]
theorem wp.impl_copyWarp.math (x : D.Warp) (h : M.impl_copyWarp_pre x) : wp.impl_copyWarp x (fun r => r = M.impl_copyWarp x) := by
  obtain ⟨h1, h2⟩ := h
  have q1 : M.slices_Clone_impl_Frame_impl_Frame_pre x.Frames := h1
  have q2 : M.slices_Clone_int_int_pre x.Regs := h2
  unfold wp.impl_copyWarp
  simp only [M.slices_Clone_impl_Frame_impl_Frame, M.slices_Clone_int_int, forall_eq, q1, q2, true_and, and_true, M.impl_copyWarp, and_self]
theorem wp.impl_copyBlock.math (b : D.Block) (h : M.impl_copyBlock_pre b) : wp.impl_copyBlock b (fun r => r = M.impl_copyBlock b) := by
  obtain ⟨h1, ⟨h2, hW⟩, h3⟩ := h
  have q1 : M.slices_Clone_impl_Ins_impl_Ins_pre b.Code := h1
  have q2 : M.slices_Clone_int_int_pre b.Memory := h3
  unfold wp.impl_copyBlock
  simp only [M.slices_Clone_impl_Ins_impl_Ins, M.slices_Clone_int_int, forall_eq]
  refine joinP_of (b.Code, [], b.Memory, b.Waiting, b.Phase, ()) ?_ fun J hJ => ⟨⟨q1, ⟨q2, hJ⟩, ⟨q2, hJ⟩, trivial⟩, ⟨q1, q2, hJ⟩, trivial⟩
  refine loop_n b.Warps.length (fun k => ((k : Int), b.Warps.take k, b.Waiting, b.Phase, ())) (fun _ => True) rfl trivial (fun k hk _ next hn => ?_) fun _ next => ?_
  · refine bcase_t (by simp; omega) ⟨by omega, hW _ (rd_mem hk), by simp; omega, ?_⟩
    rw [up64 hk (by omega)]
    have := hn trivial
    rw [List.take_add_one, List.getElem?_eq_getElem hk, Option.toList_some] at this
    rw [rd_nat hk]; exact this
  · refine bcase_f (by simp) ?_
    rw [List.take_length]; rfl
theorem wp.impl_WithMemory.math (b : D.Block) (m : List Int) (h : M.impl_WithMemory_pre b m) : wp.impl_WithMemory b m (fun r => r = M.impl_WithMemory b m) := by
  obtain ⟨h, hm⟩ := h
  have hL : M.BLong b := by
    obtain ⟨h1, ⟨h2, hW⟩, h3⟩ := h
    unfold M.BLong M.WsLong M.WLong M.Long
    exact ⟨by omega, ⟨by omega, fun x hx => by have := hW x hx; unfold M.WFit at this; omega⟩, by omega⟩
  refine ⟨h, fun r hr => ⟨hL, fun r2 hr2 => bcase_mk (fun e => ?_) fun e => ⟨by show m.length ≤ 9223372036854775807; omega, fun r3 hr3 => bcase_mk (fun e2 => ?_) fun e2 => ⟨hm, fun r4 hr4 => ?_⟩⟩⟩⟩
  all_goals simp only [M.impl_copyBlock, M.impl_BlockOk] at *
  · subst hr; simp [M.impl_WithMemory, M.withMemory, nt e hr2]
  · subst hr; simp [M.impl_WithMemory, M.withMemory, nt e2 hr3]
  · subst hr; rw [hr4]; simp [M.impl_WithMemory, M.withMemory, nf e hr2, nf e2 hr3, M.slices_Clone_int_int]
theorem rd_app {α : Type} [Inhabited α] {l m : List α} {y : α} {k : Nat} (h : l.length = k) : rd (l ++ y :: m) (k : Int) = y := by
  subst h
  rw [rd_nat (by simp)]; simp
end Go.V
set_option linter.unusedVariables false
set_option linter.unusedVariables false
set_option linter.unusedVariables false
set_option linter.unusedVariables false
set_option linter.unusedSimpArgs false
set_option maxRecDepth 20000
namespace Go.V
theorem frames_last {p : List D.Ins} {x : D.Warp} (h : M.warpOf p x = true) (hx : x.Frames ≠ []) : x.Frames.length ≤ 24 ∧ 0 ≤ (M.lastF x.Frames).Pc ∧ (M.lastF x.Frames).Pc < ((p.length : Nat) : Int) := by
  simp only [M.warpOf, M.areFrames, Bool.and_eq_true, Bool.or_eq_true] at h
  obtain ⟨h1, h2, h3, h4, h5⟩ := h
  have h5 := h5.resolve_left (by simpa using hx)
  have hpos : 0 < x.Frames.length := List.length_pos_iff.2 hx
  have hm : M.lastF x.Frames ∈ x.Frames := rd_of (by omega) (by omega)
  have hf := List.all_eq_true.1 h4 _ hm
  simp only [M.endsOk, M.frameOk, M.isIn, Bool.and_eq_true, decide_eq_true_eq, bne_iff_ne] at h5 hf
  exact ⟨h5.1, hf.1.1, by omega⟩
end Go.V
set_option linter.unusedVariables false
set_option linter.unusedVariables false
set_option linter.unusedSimpArgs false
set_option maxRecDepth 20000
namespace Go.V
theorem lanes_in {m l : Int} (h : l ∈ M.lanesOf m) : 0 ≤ l ∧ l ≤ 7 := by
  have := (List.mem_filter.1 h).1
  simp only [List.mem_cons, List.not_mem_nil, or_false] at this
  omega
theorem rd_cut {α : Type} [Inhabited α] {l : List α} {a b : Nat} {i : Int} (h0 : 0 ≤ i) (hi : a + i.toNat < b) (hb : b ≤ l.length) : rd ((l.take b).drop a) i = rd l ((a : Int) + i) := by
  have e : ((a : Int) + i).toNat = a + i.toNat := by omega
  unfold rd
  rw [e, List.getD_eq_getElem?_getD, List.getD_eq_getElem?_getD, List.getElem?_drop, List.getElem?_take, if_pos hi]
theorem runs_top {p : List D.Ins} {x : D.Warp} (h : M.Runs p x) : p.length ≤ 32 ∧ 0 < x.Frames.length ∧ x.Frames.length ≤ 24 ∧ x.Regs.length = 32 ∧ 0 ≤ M.topPc x ∧ M.topPc x < ((p.length : Nat) : Int) ∧ M.insOk (M.topIns p x) p.length = true ∧ 0 ≤ x.Number ∧ x.Number ≤ 2 := by
  obtain ⟨hp, hw, hx⟩ := h
  obtain ⟨k1, k2, k3⟩ := frames_last hw hx
  have hp' := hp
  simp only [M.programOk, Bool.and_eq_true, decide_eq_true_eq, List.all_eq_true] at hp
  simp only [M.warpOf, Bool.and_eq_true, M.isIn, decide_eq_true_eq, beq_iff_eq] at hw
  exact ⟨hp.1, List.length_pos_iff.2 hx, k1, hw.2.1, k2, k3, hp.2 _ (rd_of k2 k3), hw.1.1, hw.1.2⟩
theorem zero_reg {i : D.Ins} {n : Int} (h : M.insOk i n = true) (e : i.Op = 10) : M.isReg i.A = true := by
  simp only [M.insOk, Bool.and_eq_true] at h
  have h := h.2
  rw [if_neg (by omega), if_neg (by omega), if_neg (by omega), if_neg (by omega), if_pos e] at h
  simp only [Bool.and_eq_true] at h
  exact h.1
theorem activeMask_top {x : D.Warp} (h : x.Frames ≠ []) : M.activeMask x = (M.lastF x.Frames).Mask := by
  unfold M.activeMask
  rw [if_neg (by simpa using h)]
end Go.V
set_option linter.unusedVariables false
set_option linter.unusedVariables false
set_option linter.unusedSimpArgs false
set_option maxRecDepth 20000
namespace Go.V
theorem mem_idx {g : Int → Bool} {x : Int} : ∀ {n : Nat}, x ∈ M.idx g n ↔ ∃ k : Nat, k < n ∧ x = (k : Int) ∧ g x = true
  | 0 => by simp [M.idx]
  | n + 1 => by
    have ih := mem_idx (g := g) (x := x) (n := n)
    unfold M.idx
    constructor
    · intro h
      split at h
      · rename_i e
        rcases List.mem_append.1 h with h | h
        · obtain ⟨k, hk, h1, h2⟩ := ih.1 h; exact ⟨k, by omega, h1, h2⟩
        · obtain rfl := List.mem_singleton.1 h; exact ⟨n, by omega, rfl, e⟩
      · obtain ⟨k, hk, h1, h2⟩ := ih.1 h; exact ⟨k, by omega, h1, h2⟩
    · rintro ⟨k, hk, rfl, h2⟩
      by_cases hkn : k = n
      · subst hkn; rw [if_pos h2]; simp
      · have := ih.2 ⟨k, by omega, rfl, h2⟩
        split
        · exact List.mem_append_left _ this
        · exact this
theorem nodeOk {p : List D.Ins} (hp : M.programOk p = true) {k : Int} (h0 : 0 ≤ k) (h1 : k < ((p.length : Nat) : Int)) : M.insOk (rd p k) p.length = true := by
  simp only [M.programOk, Bool.and_eq_true, decide_eq_true_eq, List.all_eq_true] at hp
  exact hp.2 _ (rd_of h0 h1)
theorem progLen {p : List D.Ins} (hp : M.programOk p = true) : p.length ≤ 32 := by
  simp only [M.programOk, Bool.and_eq_true, decide_eq_true_eq] at hp
  exact hp.1
theorem target_in {i : D.Ins} {n : Int} (h : M.insOk i n = true) (e : i.Op = 10 ∨ i.Op = 11) : 0 ≤ i.B ∧ i.B ≤ n := by
  simp only [M.insOk, Bool.and_eq_true] at h
  have h := h.2
  rcases e with e | e
  · rw [if_neg (by omega), if_neg (by omega), if_neg (by omega), if_neg (by omega), if_pos e] at h
    simp only [Bool.and_eq_true, M.isIn, decide_eq_true_eq] at h
    exact h.2.1
  · rw [if_neg (by omega), if_neg (by omega), if_neg (by omega), if_neg (by omega), if_neg (by omega), if_pos e] at h
    simp only [Bool.and_eq_true, M.isIn, decide_eq_true_eq] at h
    exact h.2.1
theorem putTwo_mem {a b x : Int} : x ∈ M.putTwo a b ↔ x = a ∨ x = b := by
  unfold M.putTwo
  split
  · simp [or_comm]
  split
  · rename_i h1 h2; subst h2; simp
  · simp
theorem putTwo_len (a b : Int) : (M.putTwo a b).length ≤ 2 := by
  unfold M.putTwo
  (repeat' split) <;> simp
theorem next_ok {p : List D.Ins} {k : Int} (h : M.Node p k) : (∀ x ∈ M.nextOf p k, M.nodeIn p x) ∧ (M.nextOf p k).length ≤ 2 := by
  obtain ⟨hp, h0, h1⟩ := h
  unfold M.nextOf
  split
  · exact ⟨fun x hx => absurd hx List.not_mem_nil, by simp⟩
  rename_i hne
  have hlt : k < ((p.length : Nat) : Int) := by omega
  have hi := nodeOk hp h0 hlt
  split
  · exact ⟨fun x hx => by obtain rfl := List.mem_singleton.1 hx; exact ⟨by omega, by omega⟩, by simp⟩
  split
  · rename_i e
    exact ⟨fun x hx => by obtain rfl := List.mem_singleton.1 hx; exact target_in hi (.inr e), by simp⟩
  split
  · rename_i e
    refine ⟨fun x hx => ?_, putTwo_len _ _⟩
    rcases putTwo_mem.1 hx with rfl | rfl
    · exact ⟨by omega, by omega⟩
    · exact target_in hi (.inl e)
  · exact ⟨fun x hx => by obtain rfl := List.mem_singleton.1 hx; exact ⟨by omega, by omega⟩, by simp⟩
def falses (l : List Bool) : Nat := l.count false
theorem falses_set : ∀ {l : List Bool} {k : Nat}, k < l.length → l[k]? = some false → falses (l.set k true) + 1 = falses l
  | [], k, hk, _ => absurd hk (by simp)
  | b :: l, 0, hk, h => by
    simp at h; subst h
    simp [falses]
  | b :: l, k + 1, hk, h => by
    have := falses_set (l := l) (k := k) (by simpa using hk) (by simpa using h)
    unfold falses at *
    simp only [List.set_cons_succ, List.count_cons]
    omega
theorem rdB {l : List Bool} {k : Int} (h0 : 0 ≤ k) (h1 : k < ((l.length : Nat) : Int)) : l[k.toNat]? = some (rd l k) := by
  have : k.toNat < l.length := by omega
  simp [rd, List.getD_eq_getElem?_getD, this]
theorem rd_setB {l : List Bool} {k j : Int} (h0 : 0 ≤ k) (h1 : k < ((l.length : Nat) : Int)) (hj : 0 ≤ j) : rd (l.set k.toNat true) j = if j = k then true else rd l j := by
  unfold rd
  rw [List.getD_eq_getElem?_getD, List.getD_eq_getElem?_getD, List.getElem?_set]
  by_cases e : j = k
  · subst e
    have : j.toNat < l.length := by omega
    simp [this]
  · have : ¬ k.toNat = j.toNat := by omega
    rw [if_neg this, if_neg e]
theorem seen0_len (n : Nat) : (List.replicate (n + 1) false).length = n + 1 := by simp
theorem seen0_falses (n : Nat) : falses (List.replicate (n + 1) false) = n + 1 := by simp [falses]
theorem seen0_rd (n : Nat) (k : Int) : rd (List.replicate (n + 1) false) k = false := by
  unfold rd
  rw [List.getD_eq_getElem?_getD, List.getElem?_replicate]
  split <;> rfl
inductive Rch (p : List D.Ins) (wo : Int) (frm : List Int) : Int → Prop
  | base {s : Int} : s ∈ frm → s ≠ wo → Rch p wo frm s
  | step {k s : Int} : Rch p wo frm k → s ∈ M.nextOf p k → s ≠ wo → Rch p wo frm s
theorem bfs_sound {p : List D.Ins} {wo : Int} {frm : List Int} : ∀ (f : Nat) (work : List Int) (seen : List Bool), (∀ x ∈ work, M.Node p x) → seen.length = p.length + 1 → (∀ x ∈ work, x = wo ∨ Rch p wo frm x) → (∀ x, 0 ≤ x → rd seen x = true → Rch p wo frm x) →
    ∀ x, 0 ≤ x → rd (M.bfs p wo f work seen) x = true → Rch p wo frm x
  | 0, _, _, _, _, _, h => h
  | f + 1, [], _, _, _, _, h => h
  | f + 1, k :: work, seen, hw, hl, hwr, h => by
    have hk := hw k List.mem_cons_self
    have hk2 := hk.2
    unfold M.nodeIn at hk2
    have hr : ∀ x ∈ work, M.Node p x := fun x hx => hw x (List.mem_cons_of_mem _ hx)
    have hwr' : ∀ x ∈ work, x = wo ∨ Rch p wo frm x := fun x hx => hwr x (List.mem_cons_of_mem _ hx)
    unfold M.bfs
    split
    · exact bfs_sound f work seen hr hl hwr' h
    · rename_i hc
      have hkR : Rch p wo frm k := (hwr k List.mem_cons_self).resolve_left fun e => hc (.inl e)
      refine bfs_sound f _ _ (fun x hx => (List.mem_append.1 hx).elim (hr x) fun h' => ⟨hk.1, (next_ok hk).1 x h'⟩) (by simpa using hl) (fun x hx => (List.mem_append.1 hx).elim (hwr' x) fun h' => ?_) fun x hx hs => ?_
      · by_cases e : x = wo
        · exact .inl e
        · exact .inr (.step hkR h' e)
      · rw [rd_setB hk2.1 (by omega) hx] at hs
        split at hs
        · rename_i e; rw [e]; exact hkR
        · exact h x hx hs
def Closed (p : List D.Ins) (wo : Int) (frm work : List Int) (seen : List Bool) : Prop :=
  (∀ s ∈ frm, s ≠ wo → rd seen s = true ∨ s ∈ work) ∧ ∀ k, M.nodeIn p k → rd seen k = true → ∀ s ∈ M.nextOf p k, s ≠ wo → rd seen s = true ∨ s ∈ work
theorem bfs_closed {p : List D.Ins} {wo : Int} {frm : List Int} : ∀ (f : Nat) (work : List Int) (seen : List Bool), (∀ x ∈ work, M.Node p x) → (∀ x ∈ frm, M.nodeIn p x) → seen.length = p.length + 1 → 3 * falses seen + work.length ≤ f → Closed p wo frm work seen → Closed p wo frm [] (M.bfs p wo f work seen)
  | 0, work, seen, _, _, _, hf, hc => by
    have : work = [] := List.eq_nil_of_length_eq_zero (by omega)
    subst this; exact hc
  | f + 1, [], seen, _, _, _, _, hc => hc
  | f + 1, k :: work, seen, hw, hfr, hl, hf, hc => by
    have hk := hw k List.mem_cons_self
    have hk2 := hk.2
    have hk3 := hk.2
    unfold M.nodeIn at hk2
    have hr : ∀ x ∈ work, M.Node p x := fun x hx => hw x (List.mem_cons_of_mem _ hx)
    simp only [List.length_cons] at hf
    obtain ⟨c1, c2⟩ := hc
    unfold M.bfs
    split
    · rename_i hd
      have drop : ∀ s, s ≠ wo → (rd seen s = true ∨ s ∈ k :: work) → rd seen s = true ∨ s ∈ work := by
        intro s hs h
        rcases h with h | h
        · exact .inl h
        rcases List.mem_cons.1 h with rfl | h
        · exact .inl (hd.resolve_left hs)
        · exact .inr h
      exact bfs_closed f work seen hr hfr hl (by omega) ⟨fun s hs hne => drop s hne (c1 s hs hne), fun j hj hsj s hs hne => drop s hne (c2 j hj hsj s hs hne)⟩
    · rename_i hd
      have h2 : rd seen k = false := by simpa using fun e => hd (.inr e)
      have hfs := falses_set (l := seen) (k := k.toNat) (by omega) (by rw [rdB hk2.1 (by omega), h2])
      have hn := next_ok hk
      have up : ∀ s, M.nodeIn p s → (rd seen s = true ∨ s ∈ k :: work) → rd (seen.set k.toNat true) s = true ∨ s ∈ work ++ M.nextOf p k := by
        intro s hs h
        have hs2 := hs
        unfold M.nodeIn at hs2
        rw [rd_setB hk2.1 (by omega) hs2.1]
        rcases h with h | h
        · left; split; rfl; exact h
        rcases List.mem_cons.1 h with rfl | h
        · left; rw [if_pos rfl]
        · exact .inr (List.mem_append_left _ h)
      refine bfs_closed f _ _ (fun x hx => (List.mem_append.1 hx).elim (hr x) fun h' => ⟨hk.1, hn.1 x h'⟩) hfr (by simpa using hl) (by simp only [List.length_append]; omega)
        ⟨fun s hs hne => up s (hfr s hs) (c1 s hs hne), fun j hj hsj s hs hne => ?_⟩
      have hj2 := hj
      unfold M.nodeIn at hj2
      rw [rd_setB hk2.1 (by omega) hj2.1] at hsj
      split at hsj
      · rename_i e; subst e
        exact .inr (List.mem_append_right _ hs)
      · exact up s ((next_ok ⟨hk.1, hj⟩).1 s hs) (c2 j hj hsj s hs hne)
theorem rch_node {p : List D.Ins} {wo : Int} {frm : List Int} (hp : M.programOk p = true) (hf : ∀ x ∈ frm, M.nodeIn p x) {x : Int} (h : Rch p wo frm x) : M.nodeIn p x := by
  induction h with
  | base h _ => exact hf _ h
  | step _ hs _ ih => exact (next_ok ⟨hp, ih⟩).1 _ hs
theorem reached_iff {p : List D.Ins} {wo : Int} {frm : List Int} (hp : M.programOk p = true) (hf : ∀ x ∈ frm, M.nodeIn p x) {x : Int} (hx : M.nodeIn p x) : rd (M.reached p frm wo) x = true ↔ Rch p wo frm x := by
  constructor
  · intro h
    refine bfs_sound (frm := frm) _ frm _ (fun y hy => ⟨hp, hf y hy⟩) (seen0_len _) (fun y hy => ?_) (fun y _ hs => by rw [seen0_rd] at hs; cases hs) x hx.1 h
    by_cases e : y = wo
    · exact .inl e
    · exact .inr (.base hy e)
  · intro h
    have hc := bfs_closed (p := p) (wo := wo) (frm := frm) (3 * (p.length + 1) + frm.length) frm (List.replicate (p.length + 1) false) (fun y hy => ⟨hp, hf y hy⟩) hf (seen0_len _) (by rw [seen0_falses]; omega)
      ⟨fun s hs _ => .inr hs, fun k _ hs => by rw [seen0_rd] at hs; cases hs⟩
    clear hx
    induction h with
    | base h hne => exact (hc.1 _ h hne).resolve_right List.not_mem_nil
    | step hk hs hne ih => exact (hc.2 _ (rch_node hp hf hk) ih _ hs hne).resolve_right List.not_mem_nil
theorem isNode_iff {p : List D.Ins} {k : Int} : M.isNode p k = true ↔ M.Node p k := by
  simp only [M.isNode, M.Node, M.nodeIn, Bool.and_eq_true, M.isIn, decide_eq_true_eq]
theorem afters_nodes {p : List D.Ins} {k x : Int} (h : x ∈ M.others (M.aftersOf p k) k) : M.Node p x ∧ M.Node p k ∧ M.exitB p k = true ∧ M.afterB p k x = true := by
  have h := (List.mem_filter.1 h).1
  unfold M.aftersOf at h
  split at h
  · rename_i e
    simp only [Bool.and_eq_true] at e
    have hN := isNode_iff.1 e.1
    obtain ⟨j, hj, rfl, hg⟩ := mem_idx.1 h
    exact ⟨⟨hN.1, by omega, by omega⟩, hN, e.2, hg⟩
  · exact absurd h List.not_mem_nil
theorem br_in {p : List D.Ins} {b : Int} (h : M.Branch p b) : M.Node p (b + 1) ∧ M.Node p (rd p b).B ∧ M.Node p b ∧ b + 1 < 9223372036854775807 := by
  obtain ⟨hp, h0, h1, hb⟩ := h
  have h32 := progLen hp
  simp only [M.isBr, Bool.and_eq_true, beq_iff_eq] at hb
  have ht := target_in (nodeOk hp h0 h1) (.inl hb.1)
  exact ⟨⟨hp, by omega, by omega⟩, ⟨hp, ht⟩, ⟨hp, by omega, by omega⟩, by omega⟩
end Go.V
set_option linter.unusedVariables false
set_option linter.unusedVariables false
set_option linter.unusedSimpArgs false
set_option maxRecDepth 20000
set_option linter.unusedVariables false
set_option linter.unusedVariables false
set_option linter.unusedSimpArgs false
set_option linter.unusedVariables false
set_option linter.unusedSimpArgs false
set_option maxRecDepth 20000
namespace Go.V
theorem afterB_iff {p : List D.Ins} {k later : Int} (h : M.Node p k) : M.afterB p k later = true ↔ ¬ Rch p later [k] ((p.length : Nat) : Int) := by
  have hn : M.nodeIn p ((p.length : Nat) : Int) := ⟨by omega, by omega⟩
  have := reached_iff (wo := later) h.1 (fun x hx => by obtain rfl := List.mem_singleton.1 hx; exact h.2) hn
  unfold M.afterB
  rw [← this]
  cases rd (M.reached p [k] later) ((p.length : Nat) : Int) <;> simp
theorem firstS_mem {p : List D.Ins} {all : List Int} : ∀ (l : List Int), (∃ x ∈ l, all.all (M.afterB p x) = true) → M.firstS p all l ∈ l ∧ all.all (M.afterB p (M.firstS p all l)) = true
  | [], h => by obtain ⟨x, hx, _⟩ := h; cases hx
  | y :: l, h => by
    by_cases hy : all.all (M.afterB p y) = true
    · simp only [M.firstS, hy, if_true]; exact ⟨List.mem_cons_self, trivial⟩
    · have : ∃ x ∈ l, all.all (M.afterB p x) = true := by
        obtain ⟨x, hx, hg⟩ := h
        rcases List.mem_cons.1 hx with rfl | hx
        · exact absurd hg hy
        · exact ⟨x, hx, hg⟩
      have ih := firstS_mem l this
      simp only [M.firstS, hy]
      exact ⟨List.mem_cons_of_mem _ ih.1, ih.2⟩
theorem rch_via {p : List D.Ins} {y b : Int} {v : Int} (h : Rch p y [b] v) {x : Int} (hx : Rch p y [v] x) : Rch p y [b] x := by
  induction hx with
  | base hs hne => obtain rfl := List.mem_singleton.1 hs; exact h
  | step _ hs hne ih => exact .step ih hs hne
theorem first_in {p : List D.Ins} {b : Int} (hb : M.Node p b) (hbn : b ≠ ((p.length : Nat) : Int)) (he : M.exitB p b = true) : M.firstAfter p b ∈ M.others (M.aftersOf p b) b := by
  have hn : M.nodeIn p ((p.length : Nat) : Int) := ⟨by omega, by omega⟩
  have hR := (reached_iff hb.1 (fun x hx => by obtain rfl := List.mem_singleton.1 hx; exact hb.2) hn).1 he
  have hmem : ∀ x, M.nodeIn p x → x ≠ b → M.afterB p b x = true → x ∈ M.others (M.aftersOf p b) b := by
    intro x hx hxb ha
    unfold M.others M.aftersOf
    rw [if_pos (by simp only [Bool.and_eq_true]; exact ⟨isNode_iff.2 hb, he⟩)]
    refine List.mem_filter.2 ⟨mem_idx.2 ⟨x.toNat, by unfold M.nodeIn at hx; omega, by unfold M.nodeIn at hx; omega, ha⟩, by simpa using hxb⟩
  refine (firstS_mem _ ?_).1
  have good : ∀ x ∈ M.others (M.aftersOf p b) b, ∀ v, (∀ y ∈ M.others (M.aftersOf p b) b, Rch p y [b] v) → x ∈ M.nextOf p v → (M.others (M.aftersOf p b) b).all (M.afterB p x) = true := by
    intro x hx v hv hvx
    rw [List.all_eq_true]
    intro y hy
    obtain ⟨hxN, _, _, _⟩ := afters_nodes hx
    obtain ⟨hyN, _, _, hya⟩ := afters_nodes hy
    rw [afterB_iff hxN]
    intro hr
    refine (afterB_iff hb).1 hya ?_
    have hxy : x ≠ y := by
      rintro rfl
      have : ∀ z, Rch p x [x] z → False := fun z hz => by
        induction hz with
        | base hs hne => exact hne (List.mem_singleton.1 hs)
        | step _ _ _ ih => exact ih
      exact this _ hr
    exact rch_via (.step (hv y hy) hvx hxy) hr
  have hbL : ∀ y ∈ M.others (M.aftersOf p b) b, b ≠ y := fun y hy e => by
    have := (List.mem_filter.1 hy).2
    simp [e] at this
  have key : ∀ v, Rch p (-1) [b] v → (∃ x ∈ M.others (M.aftersOf p b) b, (M.others (M.aftersOf p b) b).all (M.afterB p x) = true) ∨ (v ∉ M.others (M.aftersOf p b) b ∧ ∀ y ∈ M.others (M.aftersOf p b) b, Rch p y [b] v) := by
    intro v hv
    induction hv with
    | base hs hne =>
      obtain rfl := List.mem_singleton.1 hs
      exact .inr ⟨fun h => hbL _ h rfl, fun y hy => .base (List.mem_singleton.2 rfl) (hbL y hy)⟩
    | @step k s _ hs hne ih =>
      rcases ih with ih | ⟨_, ih⟩
      · exact .inl ih
      · by_cases hsL : s ∈ M.others (M.aftersOf p b) b
        · exact .inl ⟨s, hsL, good s hsL k ih hs⟩
        · exact .inr ⟨hsL, fun y hy => .step (ih y hy) hs (fun e => hsL (e ▸ hy))⟩
  rcases key _ hR with h | ⟨h, _⟩
  · exact h
  · refine absurd (hmem _ hn (Ne.symm hbn) ((afterB_iff hb).2 fun hr => ?_)) h
    have : ∀ z, Rch p ((p.length : Nat) : Int) [b] z → z ≠ ((p.length : Nat) : Int) := fun z hz => by
      cases hz with
      | base _ hne => exact hne
      | step _ _ hne => exact hne
    exact this _ hr rfl
theorem join_in {p : List D.Ins} {b : Int} (h : M.Branch p b) : M.nodeIn p (M.joinB p b) := by
  obtain ⟨h1, h2, hb, _⟩ := br_in h
  have hn : M.nodeIn p ((p.length : Nat) : Int) := ⟨by omega, by omega⟩
  unfold M.joinB
  split
  · rename_i e
    simp only [Bool.and_eq_true] at e
    have hx1 := (reached_iff hb.1 (fun x hx => by obtain rfl := List.mem_singleton.1 hx; exact h1.2) hn).1 e.1
    have hbr := h.2.2.2
    simp only [M.isBr, Bool.and_eq_true, beq_iff_eq, bne_iff_ne] at hbr
    have hnx : b + 1 ∈ M.nextOf p b := by
      unfold M.nextOf
      have := h.2.2.1
      rw [if_neg (by omega), if_neg (by omega), if_neg (by omega), if_pos hbr.1]
      exact putTwo_mem.2 (.inl rfl)
    have he : M.exitB p b = true := by
      refine (reached_iff hb.1 (fun x hx => by obtain rfl := List.mem_singleton.1 hx; exact hb.2) hn).2 ?_
      have hb0 := h.2.1
      exact rch_via (b := b) (y := -1) (.step (.base (List.mem_singleton.2 rfl) (by omega)) hnx (by omega)) hx1
    exact (afters_nodes (first_in hb (by have := h.2.2.1; omega) he)).1.2
  · exact hn
theorem sub_check : ((List.range 256).all fun m => (List.range 256).all fun z => !(m &&& z == z) || (m &&& (2 ^ 64 - 1 - z) == m - z)) = true := by kernel_rfl
theorem lane_check : ((List.range 256).all fun m => (List.range 8).all fun l => !(M.hasLane ((m : Nat) : Int) ((l : Nat) : Int)) || (m &&& 2 ^ l == 2 ^ l)) = true := by kernel_rfl
theorem bit_check : ((List.range 8).all fun l => M.bitAt ((l : Nat) : Int) == ((2 ^ l : Nat) : Int)) = true := by kernel_rfl
theorem bitOr_nat {a b : Nat} (ha : a < 256) (hb : b < 256) : bitOr .i64 ((a : Nat) : Int) ((b : Nat) : Int) = ((a ||| b : Nat) : Int) := by
  have hlt : a ||| b < 256 := Nat.or_lt_two_pow (n := 8) ha hb
  have e : (BitVec.ofInt (IntKind.bits .i64) ((a : Nat) : Int) ||| BitVec.ofInt (IntKind.bits .i64) ((b : Nat) : Int)).toNat = a ||| b := by
    show (BitVec.ofInt 64 ((a : Nat) : Int) ||| BitVec.ofInt 64 ((b : Nat) : Int)).toNat = a ||| b
    rw [BitVec.ofInt_natCast, BitVec.ofInt_natCast, BitVec.toNat_or, BitVec.toNat_ofNat, BitVec.toNat_ofNat, Nat.mod_eq_of_lt (by omega), Nat.mod_eq_of_lt (by omega)]
  unfold bitOr
  rw [e]
  exact w64 (by omega) (by omega)
theorem bitNot_nat {a b : Nat} (ha : a < 256) (hb : b < 256) (hs : a &&& b = b) : bitNot .i64 ((a : Nat) : Int) ((b : Nat) : Int) = ((a - b : Nat) : Int) := by
  have hc := List.all_eq_true.1 (List.all_eq_true.1 sub_check a (List.mem_range.2 ha)) b (List.mem_range.2 hb)
  simp only [hs, BEq.rfl, Bool.not_true, Bool.false_or, beq_iff_eq] at hc
  have e : (BitVec.ofInt (IntKind.bits .i64) ((a : Nat) : Int) &&& ~~~(BitVec.ofInt (IntKind.bits .i64) ((b : Nat) : Int))).toNat = a - b := by
    show (BitVec.ofInt 64 ((a : Nat) : Int) &&& ~~~(BitVec.ofInt 64 ((b : Nat) : Int))).toNat = a - b
    rw [BitVec.ofInt_natCast, BitVec.ofInt_natCast, BitVec.toNat_and, BitVec.toNat_not, BitVec.toNat_ofNat, BitVec.toNat_ofNat, Nat.mod_eq_of_lt (by omega), Nat.mod_eq_of_lt (by omega)]
    exact hc
  unfold bitNot
  rw [e]
  exact w64 (by omega) (by omega)
theorem isMask_nat {m : Int} (h : M.isMask m = true) : ∃ k : Nat, m = (k : Int) ∧ k < 256 := by
  simp only [M.isMask, M.isIn, Bool.and_eq_true, decide_eq_true_eq] at h
  exact ⟨m.toNat, by omega, by omega⟩
theorem zero_fold {x : D.Warp} {reg : Int} {m : Nat} (hm : m < 256) : ∀ (l : List Int), (∀ k ∈ l, k ∈ M.lanesOf (m : Int)) → ∀ z : Nat, z < 256 → m &&& z = z → ∃ z' : Nat, l.foldl (M.zeroStep x reg) (z : Int) = (z' : Int) ∧ z' < 256 ∧ m &&& z' = z'
  | [], _, z, hz, hs => ⟨z, rfl, hz, hs⟩
  | k :: l, hl, z, hz, hs => by
    have hk := hl k List.mem_cons_self
    have hrest := fun j hj => hl j (List.mem_cons_of_mem _ hj)
    simp only [List.foldl_cons]
    by_cases e : rd x.Regs (k * 4 + reg) = 0
    · obtain ⟨h0, h7⟩ := lanes_in hk
      have hkn : ((k.toNat : Nat) : Int) = k := by omega
      have hh : M.hasLane (m : Int) k = true := (List.mem_filter.1 hk).2
      have hc := List.all_eq_true.1 (List.all_eq_true.1 lane_check m (List.mem_range.2 hm)) k.toNat (List.mem_range.2 (by omega))
      rw [hkn, hh] at hc
      simp only [Bool.not_true, Bool.false_or, beq_iff_eq] at hc
      have hb := List.all_eq_true.1 bit_check k.toNat (List.mem_range.2 (by omega))
      rw [hkn] at hb
      have hb := eq_of_beq hb
      have hp : 2 ^ k.toNat < 256 := Nat.lt_of_lt_of_le (Nat.pow_lt_pow_right (by omega) (show k.toNat < 8 by omega)) (Nat.le_refl _)
      have hst : M.zeroStep x reg (z : Int) k = ((z ||| 2 ^ k.toNat : Nat) : Int) := by
        unfold M.zeroStep
        rw [if_pos e, hb, bitOr_nat hz hp]
      rw [hst]
      exact zero_fold hm l hrest _ (Nat.or_lt_two_pow (n := 8) hz hp) (by rw [Nat.and_or_distrib_left, hs, hc])
    · have hst : M.zeroStep x reg (z : Int) k = (z : Int) := by unfold M.zeroStep; rw [if_neg e]
      rw [hst]
      exact zero_fold hm l hrest z hz hs
theorem zeroMask_sub {x : D.Warp} {reg : Int} (h : M.isMask (M.activeMask x) = true) : ∃ m z : Nat, M.activeMask x = (m : Int) ∧ M.zeroMask x reg = (z : Int) ∧ m < 256 ∧ z < 256 ∧ m &&& z = z := by
  obtain ⟨m, hm, hlt⟩ := isMask_nat h
  obtain ⟨z, hz, hzl, hs⟩ := zero_fold (x := x) (reg := reg) hlt (M.lanesOf (m : Int)) (fun _ hk => hk) 0 (by omega) (by simp)
  refine ⟨m, z, hm, ?_, hlt, hzl, hs⟩
  unfold M.zeroMask
  rw [hm]
  exact hz
theorem mask_part {x : D.Warp} {reg : Int} (h : M.isMask (M.activeMask x) = true) :
    M.isMask (M.zeroMask x reg) = true ∧ bitNot .i64 (M.activeMask x) (M.zeroMask x reg) = M.activeMask x - M.zeroMask x reg ∧ M.isMask (M.activeMask x - M.zeroMask x reg) = true := by
  obtain ⟨m, z, hm, hz, h1, h2, hs⟩ := zeroMask_sub (reg := reg) h
  have hle : z ≤ m := by rw [← hs]; exact Nat.and_le_left
  rw [hm, hz, bitNot_nat h1 h2 hs]
  refine ⟨?_, by omega, ?_⟩ <;> (simp only [M.isMask, M.isIn, Bool.and_eq_true, decide_eq_true_eq]; omega)
end Go.V
set_option linter.unusedVariables false
set_option linter.unusedSimpArgs false
set_option maxRecDepth 20000
namespace Go.V
theorem rd_take {α : Type} [Inhabited α] {l : List α} {k m : Nat} (h : k < m) : rd (l.take m) (k : Int) = rd l (k : Int) := by
  unfold rd
  rw [List.getD_eq_getElem?_getD, List.getD_eq_getElem?_getD, List.getElem?_take, if_pos (by simpa using h)]
end Go.V
set_option linter.unusedVariables false
set_option linter.unusedSimpArgs false
set_option maxRecDepth 20000
namespace Go.V
theorem laneCut_len {r : List Int} {l : Nat} (h : r.length = 32) (hl : l < 8) : (M.laneCut r l).length = 4 := by unfold M.laneCut; simp; omega
theorem putLane_len {r x : List Int} {l : Nat} (h : r.length = 32) (hl : l < 8) (hx : x.length = 4) : (M.putLane r l x).length = 32 := by unfold M.putLane; simp; omega
theorem putLane_get {r x : List Int} {l : Nat} (h : r.length = 32) (hl : l < 8) (hx : x.length = 4) (i : Nat) : (M.putLane r l x)[i]? = if l * 4 ≤ i ∧ i < l * 4 + 4 then x[i - l * 4]? else r[i]? := by
  unfold M.putLane
  rw [List.getElem?_append, List.length_append, List.length_take, Nat.min_eq_left (by omega), hx, List.getElem?_append, List.length_take, Nat.min_eq_left (by omega)]
  by_cases h1 : i < l * 4
  · rw [if_pos (by omega), if_pos h1, if_neg (by omega), List.getElem?_take, if_pos h1]
  · by_cases h2 : i < l * 4 + 4
    · rw [if_pos h2, if_neg h1, if_pos (by omega)]
    · rw [if_neg h2, if_neg (by omega), List.getElem?_drop]
      congr 1; omega
theorem laneCut_get (r : List Int) (l i : Nat) : (M.laneCut r l)[i]? = if i < 4 then r[l * 4 + i]? else none := by
  unfold M.laneCut
  rw [List.getElem?_drop, List.getElem?_take]
  by_cases h : i < 4
  · rw [if_pos h, if_pos (by omega)]
  · rw [if_neg h, if_neg (by omega)]
theorem cut_put_other {r x : List Int} {l j : Nat} (h : r.length = 32) (hl : l < 8) (hx : x.length = 4) (hne : j ≠ l) : M.laneCut (M.putLane r l x) j = M.laneCut r j := by
  apply List.ext_getElem?
  intro i
  rw [laneCut_get, laneCut_get]
  by_cases hi : i < 4
  · rw [if_pos hi, if_pos hi, putLane_get h hl hx, if_neg (by omega)]
  · rw [if_neg hi, if_neg hi]
theorem applyTo_len {i : D.Ins} {num m : Int} {r : List Int} (h : r.length = 32) : ∀ k, k ≤ 8 → (M.applyTo i num m r k).length = 32
  | 0, _ => h
  | k + 1, hk => by
    have ih := applyTo_len (i := i) (num := num) (m := m) h k (by omega)
    simp only [M.applyTo]
    split
    · exact putLane_len ih (by omega) (by rw [apply_len, laneCut_len h (by omega)])
    · exact ih
theorem applyTo_cut {i : D.Ins} {num m : Int} {r : List Int} (h : r.length = 32) : ∀ k, k ≤ 8 → ∀ j, k ≤ j → M.laneCut (M.applyTo i num m r k) j = M.laneCut r j
  | 0, _, _, _ => rfl
  | k + 1, hk, j, hj => by
    have ih := applyTo_cut (i := i) (num := num) (m := m) h k (by omega) j (by omega)
    simp only [M.applyTo]
    split
    · rw [cut_put_other (applyTo_len h k (by omega)) (by omega) (by rw [apply_len, laneCut_len h (by omega)]) (by omega), ih]
    · exact ih
theorem applyAll_len {i : D.Ins} {num m : Int} {r : List Int} (h : r.length = 32) : (M.applyAll i num m r).length = 32 := applyTo_len h 8 (Nat.le_refl _)
theorem words_put {r x : List Int} {l : Nat} (h : r.all M.isWord = true) (hx : x.all M.isWord = true) : (M.putLane r l x).all M.isWord = true := by
  rw [List.all_eq_true] at h hx ⊢
  intro y hy
  unfold M.putLane at hy
  rcases List.mem_append.1 hy with hy | hy
  · rcases List.mem_append.1 hy with hy | hy
    · exact h y (List.mem_of_mem_take hy)
    · exact hx y hy
  · exact h y (List.mem_of_mem_drop hy)
theorem words_cut {r : List Int} {l : Nat} (h : r.all M.isWord = true) : (M.laneCut r l).all M.isWord = true := by
  rw [List.all_eq_true] at h ⊢
  intro y hy
  exact h y (List.mem_of_mem_take (List.mem_of_mem_drop hy))
theorem applyTo_words {i : D.Ins} {n num m : Int} {r : List Int} (hok : M.insOk i n = true) (hn : 0 ≤ num ∧ num ≤ 2) (hl : r.length = 32) (h : r.all M.isWord = true) : ∀ k, k ≤ 8 → (M.applyTo i num m r k).all M.isWord = true
  | 0, _ => h
  | k + 1, hk => by
    have ih := applyTo_words (m := m) hok hn hl h k (by omega)
    simp only [M.applyTo]
    split
    · exact words_put ih (apply_words hok (by omega) (laneCut_len hl (by omega)) (words_cut h))
    · exact ih
theorem lastF_set {fs : List D.Frame} (h : fs ≠ []) (pc : Int) : M.lastF (M.setTop fs pc) = ⟨pc, (M.lastF fs).Stop, (M.lastF fs).Mask⟩ := by
  have hpos : 0 < fs.length := List.length_pos_iff.2 h
  have e : (((fs.length : Nat) : Int) - 1) = ((fs.length - 1 : Nat) : Int) := by omega
  unfold M.lastF M.setTop
  rw [List.length_set, e, rd_nat (by rw [List.length_set]; omega), List.getElem_set_self]
  unfold M.lastF
  rw [e]
theorem mem_lastF {fs : List D.Frame} (h : fs ≠ []) : M.lastF fs ∈ fs := by
  have hpos : 0 < fs.length := List.length_pos_iff.2 h
  exact rd_of (by omega) (by omega)
theorem setTop_all {fs : List D.Frame} {n pc : Int} (h : fs.all (M.frameOk n) = true) (hx : fs ≠ []) (hp : 0 ≤ pc ∧ pc ≤ n) : (M.setTop fs pc).all (M.frameOk n) = true := by
  rw [List.all_eq_true] at h ⊢
  intro f hf
  rcases List.mem_or_eq_of_mem_set hf with hf | rfl
  · exact h f hf
  · have := h _ (mem_lastF hx)
    simp only [M.frameOk, M.isIn, Bool.and_eq_true, decide_eq_true_eq] at this ⊢
    exact ⟨hp, this.2⟩
theorem drop_spec (fs : List D.Frame) (n : Int) : ∀ k, k ≤ fs.length → M.dropN fs n k = [] ∨ ∃ j : Nat, 0 < j ∧ j ≤ k ∧ M.dropN fs n k = fs.take j ∧ (rd fs ((j - 1 : Nat) : Int)).Pc ≠ (rd fs ((j - 1 : Nat) : Int)).Stop ∧ (rd fs ((j - 1 : Nat) : Int)).Pc ≠ n
  | 0, _ => .inl rfl
  | k + 1, hk => by
    simp only [M.dropN]
    split
    · rename_i e
      exact .inr ⟨k + 1, by omega, Nat.le_refl _, rfl, e⟩
    · rcases drop_spec fs n k (by omega) with h | ⟨j, h0, h1, h2⟩
      · exact .inl h
      · exact .inr ⟨j, h0, by omega, h2⟩
theorem drop_fine {fs : List D.Frame} {n : Int} (hall : fs.all (M.frameOk n) = true) (hl : fs.length ≤ 24) (h0 : fs ≠ [] → (rd fs 0).Stop = n ∧ (rd fs 0).Mask = 255) : M.areFrames (M.dropF fs n) n = true := by
  unfold M.dropF
  rcases drop_spec fs n fs.length (Nat.le_refl _) with h | ⟨j, hj0, hj1, h2, h3, h4⟩
  · rw [h]; rfl
  · rw [h2]
    have hne : fs ≠ [] := by intro e; rw [e] at hj1; simp at hj1; omega
    have hlen : (fs.take j).length = j := by rw [List.length_take]; omega
    have hall' : (fs.take j).all (M.frameOk n) = true := by
      rw [List.all_eq_true] at hall ⊢
      exact fun f hf => hall f (List.mem_of_mem_take hf)
    have hlast : M.lastF (fs.take j) = rd fs ((j - 1 : Nat) : Int) := by
      unfold M.lastF
      rw [hlen, show ((j : Int) - 1) = ((j - 1 : Nat) : Int) by omega, rd_take (by omega)]
    have hz : rd (fs.take j) 0 = rd fs 0 := by
      have := rd_take (l := fs) (k := 0) (m := j) (by omega)
      exact this
    unfold M.areFrames
    rw [hall', Bool.true_and, Bool.or_eq_true]
    right
    unfold M.endsOk
    rw [hlast, hz, hlen]
    obtain ⟨k1, k2⟩ := h0 hne
    simp only [Bool.and_eq_true, decide_eq_true_eq, bne_iff_ne, beq_iff_eq]
    exact ⟨by omega, h3, h4, k1, k2⟩
theorem setTop_first {fs : List D.Frame} (h : fs ≠ []) (pc : Int) : (rd (M.setTop fs pc) 0).Stop = (rd fs 0).Stop ∧ (rd (M.setTop fs pc) 0).Mask = (rd fs 0).Mask := by
  have hpos : 0 < fs.length := List.length_pos_iff.2 h
  have z : (0 : Int) = ((0 : Nat) : Int) := rfl
  by_cases h1 : fs.length = 1
  · have hl := lastF_set h pc
    have e1 : M.lastF (M.setTop fs pc) = rd (M.setTop fs pc) 0 := by unfold M.lastF M.setTop; rw [List.length_set, h1]; rfl
    have e2 : M.lastF fs = rd fs 0 := by unfold M.lastF; rw [h1]; rfl
    rw [← e1, hl, e2]; exact ⟨rfl, rfl⟩
  · have e : rd (M.setTop fs pc) 0 = rd fs 0 := by
      unfold M.setTop rd
      rw [List.getD_eq_getElem?_getD, List.getD_eq_getElem?_getD, List.getElem?_set_ne (by simp; omega)]
    rw [e]; exact ⟨rfl, rfl⟩
theorem runs_frames {p : List D.Ins} {x : D.Warp} (h : M.Runs p x) : x.Frames.all (M.frameOk p.length) = true ∧ x.Frames.length ≤ 24 ∧ (rd x.Frames 0).Stop = p.length ∧ (rd x.Frames 0).Mask = 255 ∧ M.isMask (M.lastF x.Frames).Mask = true ∧ x.Regs.all M.isWord = true := by
  obtain ⟨hp, hw, hx⟩ := h
  simp only [M.warpOf, M.areFrames, Bool.and_eq_true, Bool.or_eq_true] at hw
  obtain ⟨h1, h2, h3, h4, h5⟩ := hw
  have h5 := h5.resolve_left (by simpa using hx)
  have hf := List.all_eq_true.1 h4 _ (mem_lastF hx)
  simp only [M.endsOk, M.frameOk, Bool.and_eq_true, decide_eq_true_eq, beq_iff_eq] at h5 hf
  exact ⟨h4, h5.1, h5.2.2.2.1, h5.2.2.2.2, hf.2.2.1, h3⟩
theorem split_branch {p : List D.Ins} {x : D.Warp} (h : M.Runs p x) (hs : M.isSplit p x) : M.Branch p (M.topPc x) := by
  obtain ⟨_, _, _, _, t5, t6, _⟩ := runs_top h
  refine ⟨h.1, t5, t6, ?_⟩
  unfold M.isBr
  simp only [Bool.and_eq_true, beq_iff_eq, bne_iff_ne]
  exact hs
theorem splits_iff {p : List D.Ins} {x : D.Warp} (h : M.splits p x = true) : M.isSplit p x ∧ M.zeroMask x (M.topIns p x).A ≠ 0 ∧ M.zeroMask x (M.topIns p x).A ≠ (M.lastF x.Frames).Mask := by
  simp only [M.splits, Bool.and_eq_true, beq_iff_eq, bne_iff_ne] at h
  exact ⟨h.1, h.2.1, h.2.2⟩
theorem turn_in {p : List D.Ins} {x : D.Warp} (h : M.Runs p x) : 0 ≤ M.turnPc p x ∧ M.turnPc p x ≤ ((p.length : Nat) : Int) := by
  obtain ⟨_, _, _, _, t5, t6, t7, _⟩ := runs_top h
  unfold M.turnPc
  split
  · omega
  · split
    · exact target_in t7 (.inr (by assumption))
    · split
      · rename_i e; exact target_in t7 (.inl e.1)
      · omega
theorem stepW_fine {p : List D.Ins} {x : D.Warp} (h : M.Goes p x) : M.Fine p (M.stepW p x) := by
  obtain ⟨hr, hl⟩ := h
  obtain ⟨t1, t2, t3, t4, t5, t6, t7, t8, t9⟩ := runs_top hr
  obtain ⟨f1, f2, f3, f4, f5, f6⟩ := runs_frames hr
  have hx := hr.2.2
  refine ⟨hr.1, ?_⟩
  have fin : ∀ (fs : List D.Frame) (rg : List Int), rg.length = 32 → rg.all M.isWord = true → fs.all (M.frameOk p.length) = true → fs.length ≤ 24 → (fs ≠ [] → (rd fs 0).Stop = p.length ∧ (rd fs 0).Mask = 255) → M.warpOf p (M.dropW ⟨x.Number, fs, rg⟩ p.length) = true := by
    intro fs rg g1 g2 g3 g4 g5
    simp only [M.warpOf, M.dropW, Bool.and_eq_true, beq_iff_eq]
    exact ⟨by simp only [M.isIn, Bool.and_eq_true, decide_eq_true_eq]; exact ⟨t8, t9⟩, g1, g2, drop_fine g3 g4 g5⟩
  have s0 := fun pc => setTop_first hx pc
  unfold M.stepW
  by_cases hs : M.splits p x = true
  · rw [if_pos hs]
    obtain ⟨hsp, hz0, hzm⟩ := splits_iff hs
    have hb := split_branch hr hsp
    have hj := join_in hb
    have hact : M.activeMask x = (M.lastF x.Frames).Mask := activeMask_top hx
    obtain ⟨m1, m2, m3⟩ := mask_part (x := x) (reg := (M.topIns p x).A) (by rw [hact]; exact f5)
    rw [hact] at m2 m3
    have h22 : x.Frames.length ≤ 22 := by
      simp only [M.spec_l13Local, hs, Bool.and_eq_true, Bool.not_true, Bool.false_or, decide_eq_true_eq] at hl
      exact hl.2.2
    have hB := target_in t7 (.inl hsp.1)
    unfold M.separated
    refine fin _ _ t4 f6 ?_ ?_ fun _ => ?_
    · rw [List.all_append, setTop_all f1 hx hj, Bool.true_and]
      simp only [List.all_cons, List.all_nil, Bool.and_true, M.frameOk, Bool.and_eq_true, M.isIn, decide_eq_true_eq, bne_iff_ne]
      unfold M.nodeIn at hj
      rw [m2]
      exact ⟨⟨by omega, hj, m3, by omega⟩, hB, hj, m1, hz0⟩
    · simp only [List.length_append, M.setTop, List.length_set, List.length_cons, List.length_nil]; omega
    · have e : rd (M.setTop x.Frames (M.joinB p (M.topPc x)) ++ [⟨M.topPc x + 1, M.joinB p (M.topPc x), bitNot .i64 (M.lastF x.Frames).Mask (M.zeroMask x (M.topIns p x).A)⟩, ⟨(M.topIns p x).B, M.joinB p (M.topPc x), M.zeroMask x (M.topIns p x).A⟩]) 0 = rd (M.setTop x.Frames (M.joinB p (M.topPc x))) 0 := by
        unfold rd
        rw [List.getD_eq_getElem?_getD, List.getD_eq_getElem?_getD, List.getElem?_append_left (by simp [M.setTop]; omega)]
      rw [e, (s0 _).1, (s0 _).2]
      exact ⟨f3, f4⟩
  · rw [if_neg hs]
    unfold M.advance
    refine fin _ _ (applyAll_len t4) (applyTo_words t7 ⟨t8, t9⟩ t4 f6 8 (Nat.le_refl _)) (setTop_all f1 hx (turn_in hr)) (by simp only [M.setTop, List.length_set]; exact f2) fun _ => ?_
    rw [(s0 _).1, (s0 _).2]
    exact ⟨f3, f4⟩
end Go.V
set_option linter.unusedVariables false
set_option linter.unusedSimpArgs false
set_option maxRecDepth 20000
set_option linter.unusedVariables false
set_option linter.unusedSimpArgs false
set_option maxRecDepth 20000
set_option linter.unusedVariables false
set_option linter.unusedSimpArgs false
set_option maxRecDepth 20000
namespace Go.V
theorem goes_of {p : List D.Ins} {x : D.Warp} (h : M.Fine p x) (hl : M.spec_l13Local p x = true) : M.Goes p x := by
  refine ⟨⟨h.1, h.2, ?_⟩, hl⟩
  simp only [M.spec_l13Local, Bool.and_eq_true] at hl
  intro e
  rw [e] at hl
  simp at hl
theorem quiet_prog {p : List D.Ins} (h : M.isQuiet p = true) : M.programOk p = true := by
  simp only [M.isQuiet, Bool.and_eq_true] at h; exact h.1
theorem newWarp_fine {p : List D.Ins} (hp : M.programOk p = true) {w : Int} (hw : M.isIn w 0 2 = true) : M.Fine p (M.newWarp p w) := by
  refine ⟨hp, ?_⟩
  have hz : (List.replicate 32 (0 : Int)).all M.isWord = true := by rfl
  unfold M.warpOf
  have hN : (M.newWarp p w).Number = w := rfl
  have hR : (M.newWarp p w).Regs = List.replicate 32 0 := rfl
  have hF : (M.newWarp p w).Frames = if p.length > 0 then [⟨0, p.length, 255⟩] else [] := rfl
  rw [hN, hR, hF, hw, hz, List.length_replicate]
  by_cases h0 : p.length > 0
  · rw [if_pos h0]
    have hn : ((p.length : Nat) : Int) ≠ 0 := by omega
    have h1 : M.frameOk p.length ⟨0, p.length, 255⟩ = true := by
      simp only [M.frameOk, M.isIn, M.isMask, Bool.and_eq_true, decide_eq_true_eq, bne_iff_ne]; omega
    have hl : M.lastF [(⟨0, p.length, 255⟩ : D.Frame)] = ⟨0, p.length, 255⟩ := rfl
    have hr : rd [(⟨0, p.length, 255⟩ : D.Frame)] 0 = ⟨0, p.length, 255⟩ := rfl
    have h2 : M.endsOk [(⟨0, p.length, 255⟩ : D.Frame)] p.length = true := by
      unfold M.endsOk
      rw [hl, hr]
      simp only [Bool.and_eq_true, decide_eq_true_eq, bne_iff_ne, beq_iff_eq, List.length_cons, List.length_nil]
      exact ⟨by omega, fun h => hn h.symm, fun h => hn h.symm, trivial, trivial⟩
    have : M.areFrames [(⟨0, p.length, 255⟩ : D.Frame)] p.length = true := by
      unfold M.areFrames
      rw [h2]; simp [h1]
    rw [this]; rfl
  · rw [if_neg h0]; rfl
theorem newWarp_fit (p : List D.Ins) (w : Int) : M.WFit (M.newWarp p w) := by
  refine ⟨?_, ?_⟩
  · show (if p.length > 0 then [(⟨0, p.length, 255⟩ : D.Frame)] else []).length ≤ _
    split <;> simp
  · show (List.replicate 32 (0 : Int)).length ≤ _
    simp
end Go.V
set_option linter.unusedVariables false
namespace Go.V
def wp.spec_l01Once (s0 : D.Cur) (x1 : Int) (Q : (Bool × D.Cur) → Prop) : Prop :=
  (M.spec_l01Below_pre s0 x1 ∧ ∀ r21, r21 = M.spec_l01Below s0 x1 → Q ((r21.1 == 0), (⟨s0.b, r21.2.i, r21.2.h⟩ : D.Cur)))
def wp.spec_l05Body (s0 : D.Cur) (xs1 : List D.Ins) (x2 : Int) (Q : ((List D.Ins) × D.Cur) → Prop) : Prop :=
  (M.spec_l01Below_pre s0 4 ∧ ∀ r21, r21 = M.spec_l01Below s0 4 → LoopP (σ := (List D.Ins) × Int × Int × Int × Unit) (fun (p210 : (List D.Ins) × Int × Int × Int × Unit) next51 => match p210 with | (xs42, i45, i46, i47, _) => bcase (decide (i45 > 0)) (bcase (decide (((xs42.length : Nat) : Int) < 20)) ((M.spec_l01Below_pre (⟨s0.b, i46, i47⟩ : D.Cur) 5 ∧ ∀ r53, r53 = M.spec_l01Below (⟨s0.b, i46, i47⟩ : D.Cur) 5 → bcase (r53.1 == 0) (bcase (x2 == 0) (next51 (xs42, (IntKind.wrap .i64 (i45 - 1)), r53.2.i, r53.2.h, ())) ((M.spec_l01Below_pre (⟨s0.b, r53.2.i, r53.2.h⟩ : D.Cur) 4 ∧ ∀ r62, r62 = M.spec_l01Below (⟨s0.b, r53.2.i, r53.2.h⟩ : D.Cur) 4 → ((xs42.length + ([(⟨10, r62.1, 0, 0⟩ : D.Ins)] : List D.Ins).length ≤ 17179869184) ∧ (M.spec_l05Body_pre (⟨s0.b, r62.2.i, r62.2.h⟩ : D.Cur) (xs42 ++ ([(⟨10, r62.1, 0, 0⟩ : D.Ins)] : List D.Ins)) (IntKind.wrap .i64 (x2 - 1)) ∧ ∀ r76, r76 = M.spec_l05Body (⟨s0.b, r62.2.i, r62.2.h⟩ : D.Cur) (xs42 ++ ([(⟨10, r62.1, 0, 0⟩ : D.Ins)] : List D.Ins)) (IntKind.wrap .i64 (x2 - 1)) → (M.spec_l01Once_pre (⟨s0.b, r76.2.i, r76.2.h⟩ : D.Cur) 2 ∧ ∀ r84, r84 = M.spec_l01Once (⟨s0.b, r76.2.i, r76.2.h⟩ : D.Cur) 2 → bcase r84.1 (((0 ≤ ((xs42.length : Nat) : Int) ∧ ((xs42.length : Nat) : Int) < ((r76.1.length : Nat) : Int)) ∧ next51 ((List.set r76.1 (((xs42.length : Nat) : Int).toNat) (⟨(rd r76.1 ((xs42.length : Nat) : Int)).Op, (rd r76.1 ((xs42.length : Nat) : Int)).A, ((r76.1.length : Nat) : Int), (rd r76.1 ((xs42.length : Nat) : Int)).C⟩ : D.Ins)), (IntKind.wrap .i64 (i45 - 1)), r84.2.i, r84.2.h, ()))) (((r76.1.length + ([(⟨11, 0, 0, 0⟩ : D.Ins)] : List D.Ins).length ≤ 17179869184) ∧ ((0 ≤ ((xs42.length : Nat) : Int) ∧ ((xs42.length : Nat) : Int) < (((r76.1 ++ ([(⟨11, 0, 0, 0⟩ : D.Ins)] : List D.Ins)).length : Nat) : Int)) ∧ (M.spec_l05Body_pre (⟨s0.b, r84.2.i, r84.2.h⟩ : D.Cur) (List.set (r76.1 ++ ([(⟨11, 0, 0, 0⟩ : D.Ins)] : List D.Ins)) (((xs42.length : Nat) : Int).toNat) (⟨(rd (r76.1 ++ ([(⟨11, 0, 0, 0⟩ : D.Ins)] : List D.Ins)) ((xs42.length : Nat) : Int)).Op, (rd (r76.1 ++ ([(⟨11, 0, 0, 0⟩ : D.Ins)] : List D.Ins)) ((xs42.length : Nat) : Int)).A, ((((r76.1 ++ ([(⟨11, 0, 0, 0⟩ : D.Ins)] : List D.Ins))).length : Nat) : Int), (rd (r76.1 ++ ([(⟨11, 0, 0, 0⟩ : D.Ins)] : List D.Ins)) ((xs42.length : Nat) : Int)).C⟩ : D.Ins)) (IntKind.wrap .i64 (x2 - 1)) ∧ ∀ r117, r117 = M.spec_l05Body (⟨s0.b, r84.2.i, r84.2.h⟩ : D.Cur) (List.set (r76.1 ++ ([(⟨11, 0, 0, 0⟩ : D.Ins)] : List D.Ins)) (((xs42.length : Nat) : Int).toNat) (⟨(rd (r76.1 ++ ([(⟨11, 0, 0, 0⟩ : D.Ins)] : List D.Ins)) ((xs42.length : Nat) : Int)).Op, (rd (r76.1 ++ ([(⟨11, 0, 0, 0⟩ : D.Ins)] : List D.Ins)) ((xs42.length : Nat) : Int)).A, ((((r76.1 ++ ([(⟨11, 0, 0, 0⟩ : D.Ins)] : List D.Ins))).length : Nat) : Int), (rd (r76.1 ++ ([(⟨11, 0, 0, 0⟩ : D.Ins)] : List D.Ins)) ((xs42.length : Nat) : Int)).C⟩ : D.Ins)) (IntKind.wrap .i64 (x2 - 1)) → ((0 ≤ ((r76.1.length : Nat) : Int) ∧ ((r76.1.length : Nat) : Int) < ((r117.1.length : Nat) : Int)) ∧ next51 ((List.set r117.1 (((r76.1.length : Nat) : Int).toNat) (⟨(rd r117.1 ((r76.1.length : Nat) : Int)).Op, (rd r117.1 ((r76.1.length : Nat) : Int)).A, ((r117.1.length : Nat) : Int), (rd r117.1 ((r76.1.length : Nat) : Int)).C⟩ : D.Ins)), (IntKind.wrap .i64 (i45 - 1)), r117.2.i, r117.2.h, ())))))))))))) (bcase (r53.1 == 1) (bcase (x2 == 0) (next51 (xs42, (IntKind.wrap .i64 (i45 - 1)), r53.2.i, r53.2.h, ())) (bcase (decide (((xs42.length : Nat) : Int) > 14)) (next51 (xs42, (IntKind.wrap .i64 (i45 - 1)), r53.2.i, r53.2.h, ())) (((xs42.length + ([(⟨8, 3, 0, 0⟩ : D.Ins)] : List D.Ins).length ≤ 17179869184) ∧ (((xs42 ++ ([(⟨8, 3, 0, 0⟩ : D.Ins)] : List D.Ins)).length + ([(⟨10, 3, 0, 0⟩ : D.Ins)] : List D.Ins).length ≤ 17179869184) ∧ ((((xs42 ++ ([(⟨8, 3, 0, 0⟩ : D.Ins)] : List D.Ins)) ++ ([(⟨10, 3, 0, 0⟩ : D.Ins)] : List D.Ins)).length + ([(⟨3, 0, 0, 1⟩ : D.Ins), (⟨1, 2, 1, 0⟩ : D.Ins), (⟨4, 3, 3, 2⟩ : D.Ins)] : List D.Ins).length ≤ 17179869184) ∧ (((((xs42 ++ ([(⟨8, 3, 0, 0⟩ : D.Ins)] : List D.Ins)) ++ ([(⟨10, 3, 0, 0⟩ : D.Ins)] : List D.Ins)) ++ ([(⟨3, 0, 0, 1⟩ : D.Ins), (⟨1, 2, 1, 0⟩ : D.Ins), (⟨4, 3, 3, 2⟩ : D.Ins)] : List D.Ins)).length + ([(⟨11, 0, ((((xs42 ++ ([(⟨8, 3, 0, 0⟩ : D.Ins)] : List D.Ins))).length : Nat) : Int), 0⟩ : D.Ins)] : List D.Ins).length ≤ 17179869184) ∧ ((0 ≤ ((((xs42 ++ ([(⟨8, 3, 0, 0⟩ : D.Ins)] : List D.Ins))).length : Nat) : Int) ∧ ((((xs42 ++ ([(⟨8, 3, 0, 0⟩ : D.Ins)] : List D.Ins))).length : Nat) : Int) < ((((((xs42 ++ ([(⟨8, 3, 0, 0⟩ : D.Ins)] : List D.Ins)) ++ ([(⟨10, 3, 0, 0⟩ : D.Ins)] : List D.Ins)) ++ ([(⟨3, 0, 0, 1⟩ : D.Ins), (⟨1, 2, 1, 0⟩ : D.Ins), (⟨4, 3, 3, 2⟩ : D.Ins)] : List D.Ins)) ++ ([(⟨11, 0, ((((xs42 ++ ([(⟨8, 3, 0, 0⟩ : D.Ins)] : List D.Ins))).length : Nat) : Int), 0⟩ : D.Ins)] : List D.Ins)).length : Nat) : Int)) ∧ next51 ((List.set ((((xs42 ++ ([(⟨8, 3, 0, 0⟩ : D.Ins)] : List D.Ins)) ++ ([(⟨10, 3, 0, 0⟩ : D.Ins)] : List D.Ins)) ++ ([(⟨3, 0, 0, 1⟩ : D.Ins), (⟨1, 2, 1, 0⟩ : D.Ins), (⟨4, 3, 3, 2⟩ : D.Ins)] : List D.Ins)) ++ ([(⟨11, 0, ((((xs42 ++ ([(⟨8, 3, 0, 0⟩ : D.Ins)] : List D.Ins))).length : Nat) : Int), 0⟩ : D.Ins)] : List D.Ins)) (((((xs42 ++ ([(⟨8, 3, 0, 0⟩ : D.Ins)] : List D.Ins))).length : Nat) : Int).toNat) (⟨(rd ((((xs42 ++ ([(⟨8, 3, 0, 0⟩ : D.Ins)] : List D.Ins)) ++ ([(⟨10, 3, 0, 0⟩ : D.Ins)] : List D.Ins)) ++ ([(⟨3, 0, 0, 1⟩ : D.Ins), (⟨1, 2, 1, 0⟩ : D.Ins), (⟨4, 3, 3, 2⟩ : D.Ins)] : List D.Ins)) ++ ([(⟨11, 0, ((((xs42 ++ ([(⟨8, 3, 0, 0⟩ : D.Ins)] : List D.Ins))).length : Nat) : Int), 0⟩ : D.Ins)] : List D.Ins)) ((((xs42 ++ ([(⟨8, 3, 0, 0⟩ : D.Ins)] : List D.Ins))).length : Nat) : Int)).Op, (rd ((((xs42 ++ ([(⟨8, 3, 0, 0⟩ : D.Ins)] : List D.Ins)) ++ ([(⟨10, 3, 0, 0⟩ : D.Ins)] : List D.Ins)) ++ ([(⟨3, 0, 0, 1⟩ : D.Ins), (⟨1, 2, 1, 0⟩ : D.Ins), (⟨4, 3, 3, 2⟩ : D.Ins)] : List D.Ins)) ++ ([(⟨11, 0, ((((xs42 ++ ([(⟨8, 3, 0, 0⟩ : D.Ins)] : List D.Ins))).length : Nat) : Int), 0⟩ : D.Ins)] : List D.Ins)) ((((xs42 ++ ([(⟨8, 3, 0, 0⟩ : D.Ins)] : List D.Ins))).length : Nat) : Int)).A, (((((((xs42 ++ ([(⟨8, 3, 0, 0⟩ : D.Ins)] : List D.Ins)) ++ ([(⟨10, 3, 0, 0⟩ : D.Ins)] : List D.Ins)) ++ ([(⟨3, 0, 0, 1⟩ : D.Ins), (⟨1, 2, 1, 0⟩ : D.Ins), (⟨4, 3, 3, 2⟩ : D.Ins)] : List D.Ins)) ++ ([(⟨11, 0, ((((xs42 ++ ([(⟨8, 3, 0, 0⟩ : D.Ins)] : List D.Ins))).length : Nat) : Int), 0⟩ : D.Ins)] : List D.Ins))).length : Nat) : Int), (rd ((((xs42 ++ ([(⟨8, 3, 0, 0⟩ : D.Ins)] : List D.Ins)) ++ ([(⟨10, 3, 0, 0⟩ : D.Ins)] : List D.Ins)) ++ ([(⟨3, 0, 0, 1⟩ : D.Ins), (⟨1, 2, 1, 0⟩ : D.Ins), (⟨4, 3, 3, 2⟩ : D.Ins)] : List D.Ins)) ++ ([(⟨11, 0, ((((xs42 ++ ([(⟨8, 3, 0, 0⟩ : D.Ins)] : List D.Ins))).length : Nat) : Int), 0⟩ : D.Ins)] : List D.Ins)) ((((xs42 ++ ([(⟨8, 3, 0, 0⟩ : D.Ins)] : List D.Ins))).length : Nat) : Int)).C⟩ : D.Ins)), (IntKind.wrap .i64 (i45 - 1)), r53.2.i, r53.2.h, ()))))))))) ((M.spec_l04Plain_pre (⟨s0.b, r53.2.i, r53.2.h⟩ : D.Cur) ∧ ∀ r189, r189 = M.spec_l04Plain (⟨s0.b, r53.2.i, r53.2.h⟩ : D.Cur) → ((xs42.length + ([r189.1] : List D.Ins).length ≤ 17179869184) ∧ next51 ((xs42 ++ ([r189.1] : List D.Ins)), (IntKind.wrap .i64 (i45 - 1)), r189.2.i, r189.2.h, ()))))))) (Q (xs42, (⟨s0.b, i46, i47⟩ : D.Cur)))) (Q (xs42, (⟨s0.b, i46, i47⟩ : D.Cur)))) (xs1, r21.1, r21.2.i, r21.2.h, ()))
end Go.V
set_option linter.unusedVariables false
set_option linter.unusedSimpArgs false
set_option maxRecDepth 20000
namespace Go.V
def plainI (i : D.Ins) : Bool := M.isIn i.Op 1 9 && M.insOk i 32
inductive Seg : Nat → List D.Ins → Prop
  | nil (b : Nat) : Seg b []
  | cat {b : Nat} {s t : List D.Ins} : Seg b s → Seg (b + s.length) t → Seg b (s ++ t)
  | one {b : Nat} {i : D.Ins} : plainI i = true → Seg b [i]
  | thn {b : Nat} {r : Int} {s : List D.Ins} : 0 ≤ r → r ≤ 3 → Seg (b + 1) s → Seg b (⟨10, r, ((b + 1 + s.length : Nat) : Int), 0⟩ :: s)
  | els {b : Nat} {r : Int} {s t : List D.Ins} : 0 ≤ r → r ≤ 3 → Seg (b + 1) s → Seg (b + 2 + s.length) t → Seg b (⟨10, r, ((b + 2 + s.length : Nat) : Int), 0⟩ :: (s ++ ⟨11, 0, ((b + 2 + s.length + t.length : Nat) : Int), 0⟩ :: t))
  | loop {b : Nat} : b ≤ 14 → Seg b [⟨8, 3, 0, 0⟩, ⟨10, 3, ((b + 6 : Nat) : Int), 0⟩, ⟨3, 0, 0, 1⟩, ⟨1, 2, 1, 0⟩, ⟨4, 3, 3, 2⟩, ⟨11, 0, ((b + 1 : Nat) : Int), 0⟩]
theorem plainI_ok {i : D.Ins} (h : plainI i = true) {n : Int} (hn : 0 ≤ n ∧ n ≤ 32) : M.insOk i n = true ∧ M.isLocal i = true := by
  unfold plainI at h
  rw [Bool.and_eq_true] at h
  obtain ⟨h1, h2⟩ := h
  have h1' := h1
  simp only [M.isIn, Bool.and_eq_true, decide_eq_true_eq] at h1'
  refine ⟨?_, by simp only [M.isLocal, M.isIn, Bool.and_eq_true, decide_eq_true_eq]; omega⟩
  have e : M.isIn n 0 32 = true := by simp only [M.isIn, Bool.and_eq_true, decide_eq_true_eq]; omega
  have e32 : M.isIn 32 0 32 = true := by decide
  unfold M.insOk at h2 ⊢
  rw [e, Bool.true_and]
  rw [e32, Bool.true_and] at h2
  rw [if_neg (by omega : ¬ i.Op = 10), if_neg (by omega : ¬ i.Op = 11)] at h2 ⊢
  exact h2
theorem seg_ok {b : Nat} {s : List D.Ins} (h : Seg b s) : ∀ n : Nat, b + s.length ≤ n → n ≤ 32 → ∀ i ∈ s, M.insOk i (n : Int) = true ∧ M.isLocal i = true := by
  have br : ∀ (n : Nat) (r : Int) (t : Nat), 0 ≤ r → r ≤ 3 → t ≤ n → n ≤ 32 → M.insOk ⟨10, r, ((t : Nat) : Int), 0⟩ (n : Int) = true ∧ M.isLocal ⟨10, r, ((t : Nat) : Int), 0⟩ = true := fun n r t h0 h1 h2 h3 => by
    refine ⟨?_, rfl⟩
    simp only [M.insOk, M.isReg, M.isIn, Bool.and_eq_true, decide_eq_true_eq]
    simp
    omega
  have jm : ∀ (n t : Nat), t ≤ n → n ≤ 32 → M.insOk ⟨11, 0, ((t : Nat) : Int), 0⟩ (n : Int) = true ∧ M.isLocal ⟨11, 0, ((t : Nat) : Int), 0⟩ = true := fun n t h2 h3 => by
    refine ⟨?_, rfl⟩
    simp only [M.insOk, M.isReg, M.isIn, Bool.and_eq_true, decide_eq_true_eq]
    simp
    omega
  have pl : ∀ (n : Nat) (i : D.Ins), plainI i = true → n ≤ 32 → M.insOk i (n : Int) = true ∧ M.isLocal i = true := fun n i hi hn => plainI_ok hi ⟨by omega, by omega⟩
  induction h with
  | nil b => intro n _ _ i hi; simp at hi
  | cat _ _ ih1 ih2 =>
    intro n hn h32 i hi
    rw [List.length_append] at hn
    rcases List.mem_append.1 hi with hi | hi
    · exact ih1 n (by omega) h32 i hi
    · exact ih2 n (by omega) h32 i hi
  | one hp => intro n hn h32 i hi; rw [List.mem_singleton] at hi; subst hi; exact pl n _ hp h32
  | thn h0 h3 _ ih =>
    intro n hn h32 i hi
    rw [List.length_cons] at hn
    rcases List.mem_cons.1 hi with hi | hi
    · subst hi; exact br n _ _ h0 h3 (by omega) h32
    · exact ih n (by omega) h32 i hi
  | els h0 h3 _ _ ih1 ih2 =>
    intro n hn h32 i hi
    rw [List.length_cons, List.length_append, List.length_cons] at hn
    rcases List.mem_cons.1 hi with hi | hi
    · subst hi; exact br n _ _ h0 h3 (by omega) h32
    rcases List.mem_append.1 hi with hi | hi
    · exact ih1 n (by omega) h32 i hi
    rcases List.mem_cons.1 hi with hi | hi
    · subst hi; exact jm n _ (by omega) h32
    · exact ih2 n (by omega) h32 i hi
  | loop hb =>
    intro n hn h32 i hi
    simp only [List.length_cons, List.length_nil] at hn
    simp only [List.mem_cons, List.not_mem_nil, or_false] at hi
    rcases hi with hi | hi | hi | hi | hi | hi <;> subst hi
    · exact pl n _ rfl h32
    · exact br n _ _ (by omega) (by omega) (by omega) h32
    · exact pl n _ rfl h32
    · exact pl n _ rfl h32
    · exact pl n _ rfl h32
    · exact jm n _ (by omega) h32
theorem plain_plainI (c : D.Cur) : plainI (M.spec_l04Plain c).1 = true := by
  unfold plainI
  rw [(plain_good c (n := 32) ⟨by omega, by omega⟩).1, Bool.and_true]
  have h := below_in c (n := 9) (by omega)
  have e : IntKind.wrap .i64 (1 + (M.spec_l01Below c 9).1) = 1 + (M.spec_l01Below c 9).1 := w64 (by omega) (by omega)
  have : (M.spec_l04Plain c).1.Op = 1 + (M.spec_l01Below c 9).1 := by
    unfold M.spec_l04Plain
    simp only
    rw [e]
    split
    · rfl
    split
    · rfl
    split <;> rfl
  rw [this]
  simp only [M.isIn, Bool.and_eq_true, decide_eq_true_eq]
  omega
theorem once_b (c : D.Cur) (n : Int) : (M.once c n).2.b = c.b := below_b c n
theorem once_ok {c : D.Cur} (h : M.CurOk c) (n : Int) : M.CurOk (M.once c n).2 := below_ok h n
theorem set_at {p s : List D.Ins} {x y : D.Ins} : (p ++ x :: s).set p.length y = p ++ y :: s := by
  rw [List.set_append_right _ _ (Nat.le_refl _), Nat.sub_self]; rfl
theorem setB_at {p s : List D.Ins} {x : D.Ins} {k : Nat} (hk : p.length = k) (v : Int) : M.setB (p ++ x :: s) k v = p ++ ⟨x.Op, x.A, v, x.C⟩ :: s := by
  subst hk
  unfold M.setB
  rw [rd_app rfl, set_at]
def Grows (L : Nat) (rec : D.Cur → List D.Ins → List D.Ins × D.Cur) : Prop :=
  ∀ (c : D.Cur) (p : List D.Ins), M.CurOk c → M.CurOk (rec c p).2 ∧ (rec c p).2.b = c.b ∧ ∃ s, (rec c p).1 = p ++ s ∧ Seg p.length s ∧ p.length + s.length ≤ max p.length L
theorem countLoop_seg (p : List D.Ins) : M.countLoop p = p ++ [⟨8, 3, 0, 0⟩, ⟨10, 3, ((p.length + 6 : Nat) : Int), 0⟩, ⟨3, 0, 0, 1⟩, ⟨1, 2, 1, 0⟩, ⟨4, 3, 3, 2⟩, ⟨11, 0, ((p.length + 1 : Nat) : Int), 0⟩] := by
  have e : M.loopAll p = (p ++ [⟨8, 3, 0, 0⟩]) ++ (⟨10, 3, 0, 0⟩ : D.Ins) :: [⟨3, 0, 0, 1⟩, ⟨1, 2, 1, 0⟩, ⟨4, 3, 3, 2⟩, ⟨11, 0, ((p.length + 1 : Nat) : Int), 0⟩] := by
    unfold M.loopAll M.loopHead; simp
  have l1 : (M.loopHead p).length = (p ++ [(⟨8, 3, 0, 0⟩ : D.Ins)]).length := rfl
  have l2 : (M.loopAll p).length = p.length + 6 := by rw [e]; simp
  unfold M.countLoop
  rw [l2, e, setB_at l1.symm]
  simp
theorem ifIn_grows {L : Nat} {rec : D.Cur → List D.Ins → List D.Ins × D.Cur} (hr : Grows L rec) (hL : 20 ≤ L) {c : D.Cur} (hc : M.CurOk c) {p : List D.Ins} (hp : p.length < 20) :
    M.CurOk (M.ifIn rec c p).2 ∧ (M.ifIn rec c p).2.b = c.b ∧ ∃ s, (M.ifIn rec c p).1 = p ++ s ∧ Seg p.length s ∧ p.length + s.length ≤ L + 1 := by
  have hreg := below_in c (n := 4) (by omega)
  have c1 := below_ok hc 4
  have b1 := below_b c 4
  obtain ⟨c2, b2, s1, e1, g1, n1⟩ := hr (M.spec_l01Below c 4).2 (p ++ [⟨10, (M.spec_l01Below c 4).1, 0, 0⟩]) c1
  have hb1 : M.branchIn rec c p = rec (M.spec_l01Below c 4).2 (p ++ [⟨10, (M.spec_l01Below c 4).1, 0, 0⟩]) := rfl
  rw [← hb1] at c2 b2 e1
  rw [List.length_append, List.length_singleton] at g1 n1
  have e1' : (M.branchIn rec c p).1 = p ++ ⟨10, (M.spec_l01Below c 4).1, 0, 0⟩ :: s1 := by rw [e1]; simp
  have l1 : (M.branchIn rec c p).1.length = p.length + 1 + s1.length := by rw [e1']; simp; omega
  have c3 := once_ok c2 2
  have b3 := once_b (M.branchIn rec c p).2 2
  unfold M.ifIn
  split
  · refine ⟨c3, by rw [b3, b2, b1], _, ?_, Seg.thn (r := (M.spec_l01Below c 4).1) (by omega) (by omega) g1, ?_⟩
    · show M.setB _ _ _ = _
      rw [l1, e1', setB_at rfl]
    · rw [List.length_cons]; omega
  · have e2 : M.setB ((M.branchIn rec c p).1 ++ [⟨11, 0, 0, 0⟩]) p.length ((((M.branchIn rec c p).1 ++ [(⟨11, 0, 0, 0⟩ : D.Ins)]).length : Nat) : Int) = p ++ ⟨10, (M.spec_l01Below c 4).1, ((p.length + 2 + s1.length : Nat) : Int), 0⟩ :: (s1 ++ [⟨11, 0, 0, 0⟩]) := by
      rw [List.length_append, List.length_singleton, l1, e1', List.append_assoc, List.cons_append, setB_at rfl]
      congr 4
      omega
    obtain ⟨c4, b4, s2, e3, g2, n2⟩ := hr (M.once (M.branchIn rec c p).2 2).2 (p ++ ⟨10, (M.spec_l01Below c 4).1, ((p.length + 2 + s1.length : Nat) : Int), 0⟩ :: (s1 ++ [⟨11, 0, 0, 0⟩])) c3
    have hb2 : M.elseIn rec (M.once (M.branchIn rec c p).2 2).2 p (M.branchIn rec c p).1 = rec (M.once (M.branchIn rec c p).2 2).2 (p ++ ⟨10, (M.spec_l01Below c 4).1, ((p.length + 2 + s1.length : Nat) : Int), 0⟩ :: (s1 ++ [⟨11, 0, 0, 0⟩])) := by
      unfold M.elseIn; rw [e2]
    rw [← hb2] at c4 b4 e3
    have lq : (p ++ ⟨10, (M.spec_l01Below c 4).1, ((p.length + 2 + s1.length : Nat) : Int), 0⟩ :: (s1 ++ [(⟨11, 0, 0, 0⟩ : D.Ins)])).length = p.length + 2 + s1.length := by simp; omega
    rw [lq] at g2 n2
    have e3' : (M.elseIn rec (M.once (M.branchIn rec c p).2 2).2 p (M.branchIn rec c p).1).1 = (p ++ ⟨10, (M.spec_l01Below c 4).1, ((p.length + 2 + s1.length : Nat) : Int), 0⟩ :: s1) ++ ⟨11, 0, 0, 0⟩ :: s2 := by rw [e3]; simp
    have l3 : (M.elseIn rec (M.once (M.branchIn rec c p).2 2).2 p (M.branchIn rec c p).1).1.length = p.length + 2 + s1.length + s2.length := by rw [e3']; simp; omega
    refine ⟨c4, by rw [b4, b3, b2, b1], _, ?_, Seg.els (r := (M.spec_l01Below c 4).1) (by omega) (by omega) g1 g2, ?_⟩
    · show M.setB _ _ _ = _
      rw [l3, l1, e3', setB_at (by simp; omega)]
      simp
    · rw [List.length_cons, List.length_append, List.length_cons]; omega
theorem one_grows {L : Nat} {rec : D.Cur → List D.Ins → List D.Ins × D.Cur} (hr : Grows L rec) (hL : 20 ≤ L) (deep : Bool) {c : D.Cur} (hc : M.CurOk c) {p : List D.Ins} (hp : p.length < 20) :
    M.CurOk (M.bodyOne rec deep c p).2 ∧ (M.bodyOne rec deep c p).2.b = c.b ∧ ∃ s, (M.bodyOne rec deep c p).1 = p ++ s ∧ Seg p.length s ∧ p.length + s.length ≤ if deep then L + 1 else 20 := by
  have c1 := below_ok hc 5
  have b1 := below_b c 5
  obtain ⟨B, hB, hB1, hB2⟩ : ∃ B, (if deep then L + 1 else 20) = B ∧ 20 ≤ B ∧ (deep = true → B = L + 1) := ⟨_, rfl, by split <;> omega, fun h => if_pos h⟩
  rw [hB]
  have same : M.CurOk (M.spec_l01Below c 5).2 ∧ (M.spec_l01Below c 5).2.b = c.b ∧ ∃ s, p = p ++ s ∧ Seg p.length s ∧ p.length + s.length ≤ B :=
    ⟨c1, b1, [], by simp, Seg.nil _, by simp only [List.length_nil]; omega⟩
  unfold M.bodyOne
  split
  · split
    · rename_i hd
      obtain ⟨g1, g2, s, g3, g4, g5⟩ := ifIn_grows hr hL c1 hp
      exact ⟨g1, by rw [g2, b1], s, g3, g4, by rw [hB2 hd]; exact g5⟩
    · exact same
  split
  · split
    · rename_i hd
      refine ⟨c1, b1, _, countLoop_seg p, Seg.loop (by omega), ?_⟩
      have := hB2 hd.1
      simp only [List.length_cons, List.length_nil]
      omega
    · exact same
  · refine ⟨plain_ok c1, by rw [plain_b, b1], _, rfl, Seg.one (plain_plainI _), ?_⟩
    simp only [List.length_cons, List.length_nil]
    omega
theorem bodyN_grows {L : Nat} {rec : D.Cur → List D.Ins → List D.Ins × D.Cur} (hr : Grows L rec) (hL : 20 ≤ L) (deep : Bool) : ∀ n, Grows (if deep then L + 1 else 20) (M.bodyN rec deep n)
  | 0, c, p, hc => ⟨hc, rfl, [], by simp [M.bodyN], Seg.nil _, by simp only [List.length_nil]; omega⟩
  | n + 1, c, p, hc => by
    rw [M.bodyN]
    split
    · rename_i hp
      obtain ⟨g1, g2, s, g3, g4, g5⟩ := one_grows hr hL deep hc (p := p) (by omega)
      obtain ⟨k1, k2, t, k3, k4, k5⟩ := bodyN_grows hr hL deep n (M.bodyOne rec deep c p).2 (M.bodyOne rec deep c p).1 g1
      rw [g3, List.length_append] at k4 k5
      refine ⟨k1, by rw [k2, g2], s ++ t, by rw [k3, g3, List.append_assoc], Seg.cat g4 k4, ?_⟩
      rw [List.length_append]
      have : p.length ≤ if deep = true then L + 1 else 20 := by split <;> omega
      omega
    · exact ⟨hc, rfl, [], by simp, Seg.nil _, by simp only [List.length_nil]; omega⟩
theorem grows_mono {L K : Nat} {rec : D.Cur → List D.Ins → List D.Ins × D.Cur} (h : Grows L rec) (hk : L ≤ K) : Grows K rec := fun c p hc => by
  obtain ⟨g1, g2, s, g3, g4, g5⟩ := h c p hc
  exact ⟨g1, g2, s, g3, g4, by omega⟩
theorem grows_id : Grows 20 (fun c p => (p, c)) := fun c p hc => ⟨hc, rfl, [], by simp, Seg.nil _, by simp only [List.length_nil]; omega⟩
theorem body_grows : ∀ d, Grows (20 + d) (M.body d)
  | 0, c, p, hc => by
    obtain ⟨g1, g2, r⟩ := bodyN_grows grows_id (Nat.le_refl _) false (M.spec_l01Below c 4).1.toNat (M.spec_l01Below c 4).2 p (below_ok hc 4)
    exact ⟨g1, g2.trans (below_b c 4), r⟩
  | d + 1, c, p, hc => by
    obtain ⟨g1, g2, r⟩ := bodyN_grows (body_grows d) (by omega) true (M.spec_l01Below c 4).1.toNat (M.spec_l01Below c 4).2 p (below_ok hc 4)
    exact ⟨g1, g2.trans (below_b c 4), r⟩
end Go.V
set_option linter.unusedVariables false
set_option linter.unusedVariables false
set_option linter.unusedSimpArgs false
set_option maxRecDepth 20000
namespace Go.V
theorem fine_small {p : List D.Ins} {x : D.Warp} (h : M.Fine p x) : x.Frames.length ≤ 24 ∧ x.Regs.length = 32 := by
  have hw := h.2
  simp only [M.warpOf, M.areFrames, Bool.and_eq_true, Bool.or_eq_true, beq_iff_eq] at hw
  obtain ⟨h1, h2, h3, h4, h5⟩ := hw
  refine ⟨?_, h2⟩
  rcases h5 with h5 | h5
  · have : x.Frames = [] := by simpa using h5
    rw [this]; simp
  · simp only [M.endsOk, Bool.and_eq_true, decide_eq_true_eq] at h5
    exact h5.1
end Go.V
set_option linter.unusedVariables false
set_option linter.unusedVariables false
set_option linter.unusedSimpArgs false
set_option maxRecDepth 20000
namespace Go.V
theorem wAt_shift (p : List D.Ins) (x : D.Warp) : ∀ k, M.wAt p (M.stepW p x) k = M.wAt p x (k + 1)
  | 0 => rfl
  | k + 1 => by
    show M.stepW p (M.wAt p (M.stepW p x) k) = M.stepW p (M.wAt p x (k + 1))
    rw [wAt_shift p x k]
end Go.V
set_option linter.unusedVariables false
set_option linter.unusedSimpArgs false
set_option maxRecDepth 20000
namespace Go.V
theorem wp.spec_l01Once.math (c : D.Cur) (n : Int) (h : M.spec_l01Once_pre c n) : wp.spec_l01Once c n (fun r => r = M.spec_l01Once c n) := by
  refine ⟨h, fun r hr => ?_⟩
  rw [hr, cur_eta (below_b c n)]; rfl
theorem spec_l05Body.dec {c : D.Cur} {p : List D.Ins} {x : Int} (h : M.spec_l05Body_pre c p x) (e : (x == 0) = false) : (IntKind.wrap .i64 (x - 1)).toNat < x.toNat := by
  obtain ⟨_, _, h3, h4⟩ := h
  have e : x ≠ 0 := by simpa using e
  rw [w64 (by omega) (by omega)]; omega
def itB (rec : D.Cur → List D.Ins → List D.Ins × D.Cur) (deep : Bool) : Nat → D.Cur → List D.Ins → List D.Ins × D.Cur
  | 0, c, p => (p, c)
  | k + 1, c, p => M.bodyOne rec deep (itB rec deep k c p).2 (itB rec deep k c p).1
def recOf : Nat → D.Cur → List D.Ins → List D.Ins × D.Cur
  | 0 => fun c p => (p, c)
  | d + 1 => M.body d
def deepOf : Nat → Bool
  | 0 => false
  | _ + 1 => true
theorem body_eq (d : Nat) (c : D.Cur) (p : List D.Ins) : M.body d c p = M.bodyN (recOf d) (deepOf d) (M.spec_l01Below c 4).1.toNat (M.spec_l01Below c 4).2 p := by cases d <;> rfl
theorem recOf_grows : ∀ d, Grows (20 + d) (recOf d)
  | 0 => grows_id
  | d + 1 => grows_mono (body_grows d) (by omega)
theorem wp.spec_l05Body.math (c : D.Cur) (p : List D.Ins) (x : Int) (h : M.spec_l05Body_pre c p x) : wp.spec_l05Body c p x (fun r => r = M.spec_l05Body c p x) := by
  obtain ⟨h1, h2, h3, h4⟩ := h
  obtain ⟨d, rfl⟩ := Int.eq_ofNat_of_zero_le h3
  unfold wp.spec_l05Body
  refine ⟨h1, fun r0 g0 => ?_⟩
  subst g0
  have hb := below_in c (n := 4) (by omega)
  have hc0 := below_ok h1 4
  have hb0 := below_b c 4
  have eM : M.spec_l05Body c p (d : Int) = M.bodyN (recOf d) (deepOf d) (M.spec_l01Below c 4).1.toNat (M.spec_l01Below c 4).2 p := by
    unfold M.spec_l05Body
    rw [Int.toNat_natCast, body_eq]
  rw [eM]
  obtain ⟨n, hn⟩ := Int.eq_ofNat_of_zero_le hb.1
  generalize (M.spec_l01Below c 4).2 = c0 at *
  rw [hn] at hb ⊢
  rw [Int.toNat_natCast]
  refine loop_n n (fun k => ((itB (recOf d) (deepOf d) k c0 p).1, ((n : Int) - (k : Int)), (itB (recOf d) (deepOf d) k c0 p).2.i, (itB (recOf d) (deepOf d) k c0 p).2.h, ()))
    (fun k => M.CurOk (itB (recOf d) (deepOf d) k c0 p).2 ∧ (itB (recOf d) (deepOf d) k c0 p).2.b = c.b ∧ (k ≤ n → M.bodyN (recOf d) (deepOf d) n c0 p = M.bodyN (recOf d) (deepOf d) (n - k) (itB (recOf d) (deepOf d) k c0 p).2 (itB (recOf d) (deepOf d) k c0 p).1))
    (by simp [itB]) ⟨hc0, hb0, fun _ => rfl⟩ (fun k hk hF next hnx => ?_) fun hF next => ?_
  · obtain ⟨f1, f2, f3⟩ := hF
    have f3 := f3 (by omega)
    have it : itB (recOf d) (deepOf d) (k + 1) c0 p = M.bodyOne (recOf d) (deepOf d) (itB (recOf d) (deepOf d) k c0 p).2 (itB (recOf d) (deepOf d) k c0 p).1 := rfl
    rw [it] at hnx
    generalize itB (recOf d) (deepOf d) k c0 p = y at *
    obtain ⟨q, e⟩ := y
    dsimp only at *
    refine bcase_t (by simp; omega) (bcase_mk (fun g => ?_) fun g => ?_)
    · have g : ((q.length : Nat) : Int) < 20 := by simpa using g
      obtain ⟨k1, k2, s, k3, k4, k5⟩ := one_grows (recOf_grows d) (by omega) (deepOf d) f1 (p := q) (by omega)
      have ew : IntKind.wrap .i64 ((n : Int) - (k : Int) - 1) = (n : Int) - ((k + 1 : Nat) : Int) := by rw [w64 (by omega) (by omega)]; omega
      have fin : ∀ P c', M.bodyOne (recOf d) (deepOf d) e q = (P, c') → next (P, IntKind.wrap .i64 ((n : Int) - (k : Int) - 1), c'.i, c'.h, ()) := fun P c' hE => by
        rw [ew]
        have := hnx ⟨k1, k2.trans f2, fun _ => ?_⟩
        · rw [hE] at this; exact this
        · rw [f3, show n - k = (n - (k + 1)) + 1 by omega, M.bodyN, if_pos g]
      rw [cur_eta f2]
      refine ⟨f1, fun r5 g5 => ?_⟩
      subst g5
      have c5 := below_ok f1 5
      have b5 : (M.spec_l01Below e 5).2.b = c.b := (below_b e 5).trans f2
      rw [cur_eta b5]
      have hb5 := below_in e (n := 5) (by omega)
      refine bcase_mk (fun e0 => ?_) fun e0 => bcase_mk (fun e1 => ?_) fun e1 => ?_
      · have e0 : (M.spec_l01Below e 5).1 = 0 := by simpa using e0
        cases d with
        | zero =>
          refine bcase_t rfl (fin _ _ ?_)
          unfold M.bodyOne
          rw [if_pos e0]; rfl
        | succ d =>
          refine bcase_f (by simp; omega) ?_
          have hM : M.bodyOne (recOf (d + 1)) (deepOf (d + 1)) e q = M.ifIn (M.body d) (M.spec_l01Below e 5).2 q := by
            unfold M.bodyOne
            rw [if_pos e0]; rfl
          rw [hM] at fin
          generalize (M.spec_l01Below e 5).2 = e5 at *
          refine ⟨c5, fun r6 g6 => ?_⟩
          subst g6
          have c6 := below_ok c5 4
          have b6 : (M.spec_l01Below e5 4).2.b = c.b := (below_b e5 4).trans b5
          have ed : IntKind.wrap .i64 (((d + 1 : Nat) : Int) - 1) = (d : Int) := by rw [w64 (by omega) (by omega)]; omega
          have hbody : ∀ c p, M.spec_l05Body c p (d : Int) = M.body d c p := fun c p => by unfold M.spec_l05Body; rw [Int.toNat_natCast]
          simp only [cur_eta b6, ed, hbody]
          obtain ⟨i1, i2, s1, i3, i4, i5⟩ := body_grows d (M.spec_l01Below e5 4).2 (q ++ [⟨10, (M.spec_l01Below e5 4).1, 0, 0⟩]) c6
          rw [List.length_append, List.length_singleton] at i5
          refine ⟨by simp; omega, ⟨c6, by simp; omega, by omega, by omega⟩, fun r7 g7 => ?_⟩
          have hbr : M.branchIn (M.body d) e5 q = M.body d (M.spec_l01Below e5 4).2 (q ++ [⟨10, (M.spec_l01Below e5 4).1, 0, 0⟩]) := rfl
          rw [← g7] at hbr i1 i2 i3
          have hE : M.ifIn (M.body d) e5 q = if (M.once r7.2 2).1 then (M.setB r7.1 q.length ((r7.1.length : Nat) : Int), (M.once r7.2 2).2)
              else (M.setB (M.elseIn (M.body d) (M.once r7.2 2).2 q r7.1).1 r7.1.length (((M.elseIn (M.body d) (M.once r7.2 2).2 q r7.1).1.length : Nat) : Int), (M.elseIn (M.body d) (M.once r7.2 2).2 q r7.1).2) := by
            unfold M.ifIn; rw [hbr]
          rw [hE] at fin
          have b7 : r7.2.b = c.b := i2.trans b6
          have l7 : r7.1.length = q.length + 1 + s1.length := by rw [i3]; simp; omega
          rw [cur_eta b7]
          refine ⟨i1, fun r8 g8 => ?_⟩
          have g8 : r8 = M.once r7.2 2 := g8
          rw [← g8] at fin
          have c8 : M.CurOk r8.2 := by rw [g8]; exact once_ok i1 2
          have b8 : r8.2.b = c.b := by rw [g8]; exact (once_b _ _).trans b7
          refine bcase_mk (fun t => ⟨by omega, ?_⟩) fun t => ⟨by simp; omega, by simp; omega, ?_⟩
          · refine fin _ _ ?_
            rw [if_pos t, Int.toNat_natCast]; rfl
          · rw [if_neg (by rw [t]; simp)] at fin
            simp only [cur_eta b8]
            have hel : M.elseIn (M.body d) r8.2 q r7.1 = M.body d r8.2 (List.set (r7.1 ++ [(⟨11, 0, 0, 0⟩ : D.Ins)]) (((q.length : Nat) : Int).toNat) (⟨(rd (r7.1 ++ [(⟨11, 0, 0, 0⟩ : D.Ins)]) ((q.length : Nat) : Int)).Op, (rd (r7.1 ++ [(⟨11, 0, 0, 0⟩ : D.Ins)]) ((q.length : Nat) : Int)).A, (((r7.1 ++ [(⟨11, 0, 0, 0⟩ : D.Ins)]).length : Nat) : Int), (rd (r7.1 ++ [(⟨11, 0, 0, 0⟩ : D.Ins)]) ((q.length : Nat) : Int)).C⟩ : D.Ins)) := by
              rw [Int.toNat_natCast]; rfl
            obtain ⟨j1, j2, s2, j3, j4, j5⟩ := body_grows d r8.2 (List.set (r7.1 ++ [(⟨11, 0, 0, 0⟩ : D.Ins)]) (((q.length : Nat) : Int).toNat) (⟨(rd (r7.1 ++ [(⟨11, 0, 0, 0⟩ : D.Ins)]) ((q.length : Nat) : Int)).Op, (rd (r7.1 ++ [(⟨11, 0, 0, 0⟩ : D.Ins)]) ((q.length : Nat) : Int)).A, (((r7.1 ++ [(⟨11, 0, 0, 0⟩ : D.Ins)]).length : Nat) : Int), (rd (r7.1 ++ [(⟨11, 0, 0, 0⟩ : D.Ins)]) ((q.length : Nat) : Int)).C⟩ : D.Ins)) c8
            refine ⟨⟨c8, by simp; omega, by omega, by omega⟩, fun r9 g9 => ?_⟩
            rw [← hel] at g9 j3
            rw [← g9] at fin j3
            refine ⟨?_, ?_⟩
            · have : r9.1.length = r7.1.length + 1 + s2.length := by rw [j3, List.length_append, List.length_set, List.length_append]; rfl
              omega
            · refine fin _ _ ?_
              rw [Int.toNat_natCast]; rfl
      · have e0 : ¬ (M.spec_l01Below e 5).1 = 0 := by simpa using e0
        have e1 : (M.spec_l01Below e 5).1 = 1 := by simpa using e1
        have hM : M.bodyOne (recOf d) (deepOf d) e q = if deepOf d ∧ ¬ ((q.length : Nat) : Int) > 14 then (M.countLoop q, (M.spec_l01Below e 5).2) else (q, (M.spec_l01Below e 5).2) := by
          unfold M.bodyOne
          rw [if_neg e0, if_pos e1]
        rw [hM] at fin
        cases d with
        | zero =>
          refine bcase_t rfl (fin _ _ ?_)
          rw [if_neg (by simp [deepOf])]
        | succ d =>
          refine bcase_f (by simp; omega) (bcase_mk (fun g14 => fin _ _ ?_) fun g14 => ?_)
          · have g14 : ((q.length : Nat) : Int) > 14 := by simpa using g14
            rw [if_neg (by simp only [not_and, Int.not_lt]; omega)]
          · have g14 : ¬ ((q.length : Nat) : Int) > 14 := by simpa using g14
            refine ⟨by simp; omega, by simp; omega, by simp; omega, by simp; omega, by simp; omega, fin _ _ ?_⟩
            rw [if_pos ⟨rfl, g14⟩, Int.toNat_natCast]; rfl
      · have e0 : ¬ (M.spec_l01Below e 5).1 = 0 := by simpa using e0
        have e1 : ¬ (M.spec_l01Below e 5).1 = 1 := by simpa using e1
        refine ⟨c5, fun r6 g6 => ⟨by simp; omega, fin _ _ ?_⟩⟩
        unfold M.bodyOne
        rw [if_neg e0, if_neg e1, g6]
    · have g : ¬ ((q.length : Nat) : Int) < 20 := by simpa using g
      rw [f3, show n - k = (n - (k + 1)) + 1 by omega, M.bodyN, if_neg g, cur_eta f2]
  · obtain ⟨f1, f2, f3⟩ := hF
    refine bcase_f (by simp) ?_
    rw [f3 (Nat.le_refl _), Nat.sub_self, cur_eta f2]; rfl
theorem runW_stop (p : List D.Ins) (k : Nat) (x : D.Warp) (n : Int) (h : M.spec_l13Local p x = false) : M.runW p k x n = (x, n) := by
  cases k with
  | zero => rfl
  | succ k => simp only [M.runW]; rw [if_neg (by rw [h]; simp)]
end Go.V
set_option linter.unusedVariables false
set_option linter.unusedSimpArgs false
set_option maxRecDepth 20000
namespace Go.V
def memI (i : D.Ins) : Bool := M.isIn i.Op 13 16 && M.insOk i 32
inductive MSeg : Nat → List D.Ins → Prop
  | nil (b : Nat) : MSeg b []
  | cat {b : Nat} {s t : List D.Ins} : MSeg b s → MSeg (b + s.length) t → MSeg b (s ++ t)
  | seg {b : Nat} {s : List D.Ins} : Seg b s → MSeg b s
  | mem {b : Nat} {i : D.Ins} : memI i = true → MSeg b [i]
theorem memI_ok {i : D.Ins} (h : memI i = true) {n : Int} (hn : 0 ≤ n ∧ n ≤ 32) : M.insOk i n = true := by
  unfold memI at h
  rw [Bool.and_eq_true] at h
  obtain ⟨h1, h2⟩ := h
  simp only [M.isIn, Bool.and_eq_true, decide_eq_true_eq] at h1
  have e : M.isIn n 0 32 = true := by simp only [M.isIn, Bool.and_eq_true, decide_eq_true_eq]; omega
  have e32 : M.isIn 32 0 32 = true := by decide
  unfold M.insOk at h2 ⊢
  rw [e, Bool.true_and]
  rw [e32, Bool.true_and] at h2
  rw [if_neg (by omega : ¬ i.Op = 10), if_neg (by omega : ¬ i.Op = 11)] at h2 ⊢
  exact h2
theorem mseg_ok {b : Nat} {s : List D.Ins} (h : MSeg b s) : ∀ n : Nat, b + s.length ≤ n → n ≤ 32 → ∀ i ∈ s, M.insOk i (n : Int) = true := by
  induction h with
  | nil b => intro n _ _ i hi; simp at hi
  | cat _ _ ih1 ih2 =>
    intro n hn h32 i hi
    rw [List.length_append] at hn
    rcases List.mem_append.1 hi with hi | hi
    · exact ih1 n (by omega) h32 i hi
    · exact ih2 n (by omega) h32 i hi
  | seg hs => intro n hn h32 i hi; exact (seg_ok hs n hn h32 i hi).1
  | mem hm => intro n hn h32 i hi; rw [List.mem_singleton] at hi; subst hi; exact memI_ok hm ⟨by omega, by omega⟩
theorem pick_mem (c : D.Cur) {l : List Int} (h : l ≠ []) : (M.spec_l01PickInt c l).1 ∈ l := by
  have hpos : (0 : Int) < ((l.length : Nat) : Int) := by have := List.length_pos_iff.2 h; omega
  have := below_in c hpos
  exact rd_of this.1 this.2
theorem mem_mem (c : D.Cur) : memI (M.spec_l04Memory c).1 = true := by
  have h1 := pick_mem c (l := [13, 14, 15]) (by simp)
  have h2 := below_in (M.spec_l01PickInt c [13, 14, 15]).2 (n := 4) (by omega)
  have h3 := below_in (M.spec_l01Below (M.spec_l01PickInt c [13, 14, 15]).2 4).2 (n := 4) (by omega)
  unfold M.spec_l04Memory
  simp only [List.mem_cons, List.not_mem_nil, or_false] at h1
  simp only [memI, M.insOk, M.isReg, M.isIn, Bool.and_eq_true, decide_eq_true_eq]
  rcases h1 with h1 | h1 | h1 <;> (rw [h1]; simp; omega)
theorem set_plain {a x : Int} (ha : 0 ≤ a ∧ a ≤ 3) (hx : 0 ≤ x ∧ x ≤ 65535) : plainI ⟨1, a, x, 0⟩ = true := by
  simp only [plainI, M.insOk, M.isReg, M.isWord, M.isIn, Bool.and_eq_true, decide_eq_true_eq]
  simp
  omega
theorem mem_ok2 {op a x : Int} (ho : op = 13 ∨ op = 14 ∨ op = 15) (ha : 0 ≤ a ∧ a ≤ 3) (hx : 0 ≤ x ∧ x ≤ 3) : memI ⟨op, a, x, 0⟩ = true := by
  simp only [memI, M.insOk, M.isReg, M.isIn, Bool.and_eq_true, decide_eq_true_eq]
  rcases ho with rfl | rfl | rfl <;> (simp; omega)
theorem progOne_grows {c : D.Cur} (hc : M.CurOk c) {p : List D.Ins} (hp : p.length ≤ 28) : M.CurOk (M.progOne c p).2 ∧ (M.progOne c p).2.b = c.b ∧ ∃ s, (M.progOne c p).1 = p ++ s ∧ MSeg p.length s ∧ p.length + s.length ≤ 32 := by
  have c1 := below_ok hc 7
  have b1 := below_b c 7
  unfold M.progOne
  generalize (M.spec_l01Below c 7).2 = d at *
  split
  · exact ⟨c1, b1, _, rfl, .mem rfl, by simp; omega⟩
  split
  · have hr := below_in d (n := 4) (by omega)
    exact ⟨below_ok c1 4, (below_b d 4).trans b1, _, rfl, .cat (.seg (.one rfl)) (.mem (mem_ok2 (by omega) (by omega) (by omega))) (s := [⟨8, 0, 0, 0⟩]), by simp [M.progStore]; omega⟩
  split
  · have h1 := pick_mem d (l := [1, 8, 31]) (by simp)
    simp only [List.mem_cons, List.not_mem_nil, or_false] at h1
    refine ⟨pick_ok c1 _, (pick_b d _).trans b1, _, rfl, ?_, by simp [M.progLoad]; omega⟩
    refine .cat (s := [⟨1, 1, (M.spec_l01PickInt d [1, 8, 31]).1, 0⟩]) (.seg (.one (set_plain (by omega) (by omega)))) ?_
    refine .cat (s := [⟨8, 0, 0, 0⟩]) (.seg (.one rfl)) (.cat (s := [⟨3, 0, 0, 1⟩]) (.seg (.one rfl)) (.mem rfl))
  split
  · have h1 := below_in d (n := 8) (by omega)
    have h2 := below_in (M.spec_l01Below d 8).2 (n := 4) (by omega)
    refine ⟨below_ok (below_ok c1 8) 4, (below_b _ 4).trans ((below_b d 8).trans b1), _, rfl, ?_, by simp [M.progBump]; omega⟩
    exact .cat (s := [⟨1, 1, 24 + (M.spec_l01Below d 8).1, 0⟩]) (.seg (.one (set_plain (by omega) (by omega)))) (.mem (mem_ok2 (by omega) (by omega) (by omega)))
  split
  · split
    · obtain ⟨g1, g2, s, g3, g4, g5⟩ := body_grows 1 d p c1
      exact ⟨g1, g2.trans b1, s, g3, .seg g4, by omega⟩
    · exact ⟨c1, b1, [], by simp, .nil _, by simp; omega⟩
  split
  · refine ⟨below_ok (below_ok (pick_ok c1 _) 4) 4, (below_b _ 4).trans ((below_b _ 4).trans ((pick_b d _).trans b1)), _, rfl, .mem (mem_mem d), by simp; omega⟩
  · exact ⟨plain_ok c1, (plain_b d).trans b1, _, rfl, .seg (.one (plain_plainI d)), by simp; omega⟩
theorem progN_grows : ∀ (n : Nat) (c : D.Cur) (p : List D.Ins), M.CurOk c → p.length ≤ 32 → M.CurOk (M.progN n c p).2 ∧ (M.progN n c p).2.b = c.b ∧ ∃ s, (M.progN n c p).1 = p ++ s ∧ MSeg p.length s ∧ p.length + s.length ≤ 32
  | 0, c, p, hc, hp => ⟨hc, rfl, [], by simp [M.progN], .nil _, by simpa using hp⟩
  | n + 1, c, p, hc, hp => by
    rw [M.progN]
    split
    · rename_i h
      obtain ⟨g1, g2, s, g3, g4, g5⟩ := progOne_grows hc (p := p) (by omega)
      obtain ⟨k1, k2, t, k3, k4, k5⟩ := progN_grows n (M.progOne c p).2 (M.progOne c p).1 g1 (by rw [g3, List.length_append]; exact g5)
      rw [g3, List.length_append] at k4 k5
      exact ⟨k1, k2.trans g2, s ++ t, by rw [k3, g3, List.append_assoc], .cat g4 k4, by rw [List.length_append]; omega⟩
    · exact ⟨hc, rfl, [], by simp, .nil _, by simpa using hp⟩
theorem prog_draw {c : D.Cur} (h : M.CurOk c) : M.CurOk (M.spec_l29Program c).2 ∧ (M.spec_l29Program c).2.b = c.b ∧ MSeg 0 (M.spec_l29Program c).1 ∧ (M.spec_l29Program c).1.length ≤ 32 ∧ 1 ≤ (M.spec_l29Program c).1.length := by
  obtain ⟨g1, g2, s, g3, g4, g5⟩ := progN_grows (1 + (M.spec_l01Below c 5).1).toNat (M.spec_l01Below c 5).2 [⟨8, 0, 0, 0⟩] (below_ok h 5) (by simp)
  refine ⟨g1, g2.trans (below_b c 5), ?_, ?_, ?_⟩
  · show MSeg 0 (M.progN _ _ _).1
    rw [g3]
    exact .cat (.seg (.one rfl)) g4
  · show (M.progN _ _ _).1.length ≤ 32
    rw [g3, List.length_append]; exact g5
  · show 1 ≤ (M.progN _ _ _).1.length
    rw [g3, List.length_append]; simp
theorem prog_good {c : D.Cur} (h : M.CurOk c) : M.programOk (M.spec_l29Program c).1 = true := by
  obtain ⟨_, _, g3, g4, _⟩ := prog_draw h
  unfold M.programOk
  rw [Bool.and_eq_true, List.all_eq_true, decide_eq_true_eq]
  exact ⟨g4, mseg_ok g3 _ (by omega) g4⟩
end Go.V
set_option linter.unusedVariables false
set_option linter.unusedVariables false
set_option linter.unusedSimpArgs false
set_option maxRecDepth 20000
set_option linter.unusedVariables false
set_option linter.unusedSimpArgs false
set_option maxRecDepth 20000
namespace Go.V
theorem has_check : ((List.range 256).all fun m => (List.range 8).all fun i => M.hasLane ((m : Nat) : Int) ((i : Nat) : Int) == m.testBit i) = true := by kernel_rfl
theorem has_bit {m i : Nat} (hm : m < 256) (hi : i < 8) : M.hasLane (m : Int) (i : Int) = m.testBit i := by
  have := List.all_eq_true.1 (List.all_eq_true.1 has_check m (List.mem_range.2 hm)) i (List.mem_range.2 hi)
  exact eq_of_beq this
theorem some_check : ((List.range 256).all fun m => m == 0 || (List.range 8).any fun i => M.hasLane ((m : Nat) : Int) ((i : Nat) : Int)) = true := by kernel_rfl
theorem mask_some {m : Int} (h : M.isMask m = true) (h0 : m ≠ 0) : ∃ i : Nat, i < 8 ∧ M.hasLane m (i : Int) = true := by
  obtain ⟨k, rfl, hk⟩ := isMask_nat h
  have := List.all_eq_true.1 some_check k (List.mem_range.2 hk)
  rw [Bool.or_eq_true, List.any_eq_true] at this
  rcases this with h1 | ⟨i, hi, h1⟩
  · have := eq_of_beq h1; omega
  · exact ⟨i, List.mem_range.1 hi, h1⟩
theorem mask_full {i : Nat} (hi : i < 8) : M.hasLane 255 (i : Int) = true := by
  have := has_bit (m := 255) (i := i) (by omega) hi
  rw [show ((255 : Nat) : Int) = 255 from rfl] at this
  rw [this, show 255 = 2 ^ 8 - 1 from rfl, Nat.testBit_two_pow_sub_one]
  simpa using hi
theorem mask_zero (i : Nat) (hi : i < 8) : M.hasLane 0 (i : Int) = false := by
  have := has_bit (m := 0) (i := i) (by omega) hi
  rw [show ((0 : Nat) : Int) = 0 from rfl] at this
  rw [this]; simp
theorem mask_ext {a b : Int} (ha : M.isMask a = true) (hb : M.isMask b = true) (h : ∀ i : Nat, i < 8 → M.hasLane a (i : Int) = M.hasLane b (i : Int)) : a = b := by
  obtain ⟨m, rfl, hm⟩ := isMask_nat ha
  obtain ⟨n, rfl, hn⟩ := isMask_nat hb
  have : m = n := by
    apply Nat.eq_of_testBit_eq
    intro i
    by_cases hi : i < 8
    · rw [← has_bit hm hi, ← has_bit hn hi, h i hi]
    · have h256 : 256 ≤ 2 ^ i := Nat.pow_le_pow_right (n := 2) (by decide) (show 8 ≤ i by omega)
      rw [Nat.testBit_lt_two_pow (Nat.lt_of_lt_of_le hm h256), Nat.testBit_lt_two_pow (Nat.lt_of_lt_of_le hn h256)]
  rw [this]
theorem bitAt_nat {k : Nat} (hk : k < 8) : M.bitAt (k : Int) = ((2 ^ k : Nat) : Int) := eq_of_beq (List.all_eq_true.1 bit_check k (List.mem_range.2 hk))
theorem zero_fold_has {x : D.Warp} {reg : Int} {i : Nat} (hi : i < 8) : ∀ (l : List Int), (∀ k ∈ l, 0 ≤ k ∧ k ≤ 7) → ∀ z : Nat, z < 256 →
    ∃ z' : Nat, l.foldl (M.zeroStep x reg) (z : Int) = (z' : Int) ∧ z' < 256 ∧ (z'.testBit i = true ↔ z.testBit i = true ∨ ((i : Int) ∈ l ∧ rd x.Regs ((i : Int) * 4 + reg) = 0))
  | [], _, z, hz => ⟨z, rfl, hz, by simp⟩
  | k :: l, hl, z, hz => by
    obtain ⟨h0, h7⟩ := hl k List.mem_cons_self
    obtain ⟨n, rfl⟩ := Int.eq_ofNat_of_zero_le h0
    simp only [List.foldl_cons]
    have hp : 2 ^ n < 256 := Nat.lt_of_lt_of_le (Nat.pow_lt_pow_right (by omega) (show n < 8 by omega)) (Nat.le_refl _)
    by_cases e : rd x.Regs ((n : Int) * 4 + reg) = 0
    · have hst : M.zeroStep x reg (z : Int) (n : Int) = ((z ||| 2 ^ n : Nat) : Int) := by
        unfold M.zeroStep
        rw [if_pos e, bitAt_nat (by omega), bitOr_nat hz hp]
      rw [hst]
      obtain ⟨z', g1, g2, g3⟩ := zero_fold_has hi l (fun k hk => hl k (List.mem_cons_of_mem _ hk)) _ (Nat.or_lt_two_pow (n := 8) hz hp)
      refine ⟨z', g1, g2, g3.trans ?_⟩
      rw [Nat.testBit_or, Bool.or_eq_true, Nat.testBit_two_pow, decide_eq_true_eq, List.mem_cons]
      constructor
      · rintro ((h | rfl) | ⟨h, h'⟩)
        · exact .inl h
        · exact .inr ⟨.inl rfl, e⟩
        · exact .inr ⟨.inr h, h'⟩
      · rintro (h | ⟨h | h, h'⟩)
        · exact .inl (.inl h)
        · exact .inl (.inr (by omega))
        · exact .inr ⟨h, h'⟩
    · have hst : M.zeroStep x reg (z : Int) (n : Int) = (z : Int) := by unfold M.zeroStep; rw [if_neg e]
      rw [hst]
      obtain ⟨z', g1, g2, g3⟩ := zero_fold_has hi l (fun k hk => hl k (List.mem_cons_of_mem _ hk)) z hz
      refine ⟨z', g1, g2, g3.trans ?_⟩
      rw [List.mem_cons]
      constructor
      · rintro (h | ⟨h, h'⟩)
        · exact .inl h
        · exact .inr ⟨.inr h, h'⟩
      · rintro (h | ⟨h | h, h'⟩)
        · exact .inl h
        · exact absurd (h ▸ h') e
        · exact .inr ⟨h, h'⟩
theorem lanesOf_mem {m : Int} {i : Nat} (hi : i < 8) : (i : Int) ∈ M.lanesOf m ↔ M.hasLane m (i : Int) = true := by
  unfold M.lanesOf
  rw [List.mem_filter]
  refine ⟨fun h => h.2, fun h => ⟨?_, h⟩⟩
  have : i = 0 ∨ i = 1 ∨ i = 2 ∨ i = 3 ∨ i = 4 ∨ i = 5 ∨ i = 6 ∨ i = 7 := by omega
  rcases this with rfl | rfl | rfl | rfl | rfl | rfl | rfl | rfl <;> decide
theorem zero_has {x : D.Warp} {reg : Int} {i : Nat} (hi : i < 8) : M.hasLane (M.zeroMask x reg) (i : Int) = true ↔ M.hasLane (M.activeMask x) (i : Int) = true ∧ rd x.Regs ((i : Int) * 4 + reg) = 0 := by
  obtain ⟨z', g1, g2, g3⟩ := zero_fold_has (x := x) (reg := reg) hi (M.lanesOf (M.activeMask x)) (fun k hk => lanes_in hk) 0 (by omega)
  unfold M.zeroMask
  rw [show (0 : Int) = ((0 : Nat) : Int) from rfl, g1, has_bit g2 hi, g3, lanesOf_mem hi]
  simp
theorem minus_has {x : D.Warp} {reg : Int} (h : M.isMask (M.activeMask x) = true) {i : Nat} (hi : i < 8) :
    M.hasLane (bitNot .i64 (M.activeMask x) (M.zeroMask x reg)) (i : Int) = true ↔ M.hasLane (M.activeMask x) (i : Int) = true ∧ ¬ M.hasLane (M.zeroMask x reg) (i : Int) = true := by
  obtain ⟨m, z, hm, hz, h1, h2, hs⟩ := zeroMask_sub (reg := reg) h
  rw [hm, hz, bitNot_nat h1 h2 hs]
  have hc := List.all_eq_true.1 (List.all_eq_true.1 sub_check m (List.mem_range.2 h1)) z (List.mem_range.2 h2)
  simp only [hs, BEq.rfl, Bool.not_true, Bool.false_or, beq_iff_eq] at hc
  have hc' : m - z = m &&& (2 ^ 64 - (z + 1)) := by rw [← hc, Nat.sub_sub, Nat.add_comm]
  rw [has_bit (by omega) hi, has_bit h1 hi, has_bit h2 hi, hc', Nat.testBit_and, Nat.testBit_two_pow_sub_succ (by omega)]
  simp
  intro _ _
  omega
theorem countTo_le {a m : Int} : ∀ k : Nat, k ≤ 8 → (∀ i : Nat, i < k → M.hasLane a (i : Int) = true → M.hasLane m (i : Int) = true) → M.countTo a k ≤ M.countTo m k
  | 0, _, _ => by simp [M.countTo]
  | k + 1, hk, h => by
    have ih := countTo_le k (by omega) fun i hi => h i (by omega)
    simp only [M.countTo]
    split
    · rename_i e
      rw [if_pos (h k (by omega) e)]; omega
    · split <;> omega
theorem countTo_lt {a m : Int} {j : Nat} (hm : M.hasLane m (j : Int) = true) (ha : ¬ M.hasLane a (j : Int) = true) : ∀ k : Nat, k ≤ 8 → j < k → (∀ i : Nat, i < k → M.hasLane a (i : Int) = true → M.hasLane m (i : Int) = true) → M.countTo a k < M.countTo m k
  | 0, _, hj, _ => by omega
  | k + 1, hk, hj, h => by
    simp only [M.countTo]
    by_cases e : j = k
    · subst e
      rw [if_neg ha, if_pos hm]
      have := countTo_le (a := a) (m := m) j (by omega) fun i hi => h i (by omega)
      omega
    · have ih := countTo_lt hm ha k (by omega) (by omega) fun i hi => h i (by omega)
      split
      · rename_i e
        rw [if_pos (h k (by omega) e)]; omega
      · split <;> omega
theorem count_one {m : Int} {i : Nat} (hi : i < 8) (h : M.hasLane m (i : Int) = true) : 1 ≤ M.countTo m 8 := by
  have h0 : M.countTo 0 8 = 0 := by decide
  have := countTo_lt (a := 0) (m := m) h (by rw [mask_zero i hi]; simp) 8 (Nat.le_refl _) hi fun j hj h' => by rw [mask_zero j hj] at h'; cases h'
  omega
def PD (p : List D.Ins) (x r : Int) : Prop := ¬ Rch p r [x] ((p.length : Nat) : Int)
theorem rch_ne {p : List D.Ins} {r x y : Int} (h : Rch p r [x] y) : x ≠ r := by
  induction h with
  | base hs hne => rwa [List.mem_singleton.1 hs] at hne
  | step _ _ _ ih => exact ih
theorem PD.next {p : List D.Ins} {x r y : Int} (h : PD p x r) (hx : x ≠ r) (hy : y ∈ M.nextOf p x) : PD p y r := fun hr => by
  have hne := rch_ne hr
  exact h (rch_via (b := x) (.step (.base (List.mem_singleton.2 rfl) hx) hy hne) hr)
theorem PD.exit {p : List D.Ins} {r : Int} (h : PD p ((p.length : Nat) : Int) r) : r = ((p.length : Nat) : Int) := by
  by_cases e : ((p.length : Nat) : Int) = r
  · exact e.symm
  · exact absurd (.base (List.mem_singleton.2 rfl) e) h
theorem PD.refl {p : List D.Ins} (x : Int) : PD p x x := fun h => rch_ne h rfl
theorem PD.last {p : List D.Ins} (x : Int) : PD p x ((p.length : Nat) : Int) := fun h => by
  have : ∀ y, Rch p ((p.length : Nat) : Int) [x] y → y ≠ ((p.length : Nat) : Int) := fun y hy => by
    cases hy with
    | base _ hne => exact hne
    | step _ _ hne => exact hne
  exact this _ h rfl
def Alone (p : List D.Ins) : Nat → D.Lane → List Int → Prop
  | 0, l, R => l.Pc = ((p.length : Nat) : Int) ∧ l.Regs = R
  | k + 1, l, R => l.Pc < ((p.length : Nat) : Int) ∧ Alone p k (M.step p l) R
theorem Alone.at_end {p : List D.Ins} {k : Nat} {l : D.Lane} {R : List Int} (h : Alone p k l R) (e : l.Pc = ((p.length : Nat) : Int)) : k = 0 ∧ l.Regs = R := by
  cases k with
  | zero => exact ⟨rfl, h.2⟩
  | succ k => have := h.1; omega
theorem Alone.go {p : List D.Ins} {k : Nat} {l : D.Lane} {R : List Int} (h : Alone p k l R) (e : l.Pc ≠ ((p.length : Nat) : Int)) : ∃ j, k = j + 1 ∧ Alone p j (M.step p l) R := by
  cases k with
  | zero => exact absurd h.1 e
  | succ k => exact ⟨k, rfl, h.2⟩
theorem alone_run {p : List D.Ins} : ∀ (k N : Nat) (l : D.Lane) (n : Int) (R : List Int), Alone p k l R → k ≤ N → (M.runN p N l n).2 = n + (k : Int) ∧ (M.runN p N l n).1.Pc = ((p.length : Nat) : Int) ∧ (M.runN p N l n).1.Regs = R
  | 0, N, l, n, R, h, hk => by
    have e : M.runN p N l n = (l, n) := runN_end p N l n (by have := h.1; omega)
    rw [e]; exact ⟨by simp, h.1, h.2⟩
  | k + 1, N + 1, l, n, R, h, hk => by
    rw [M.runN, if_pos h.1]
    obtain ⟨g1, g2, g3⟩ := alone_run k N _ (n + 1) R h.2 (by omega)
    exact ⟨by rw [g1]; push_cast; omega, g2, g3⟩
theorem alone_reach {p : List D.Ins} (hp : M.programOk p = true) : ∀ (k : Nat) (l : D.Lane) (R : List Int), Alone p k l R → 0 ≤ l.Pc → Rch p (-1) [l.Pc] ((p.length : Nat) : Int)
  | 0, l, R, h, h0 => by rw [h.1]; exact .base (List.mem_singleton.2 rfl) (by omega)
  | k + 1, l, R, h, h0 => by
    have hn : (M.step p l).Pc ∈ M.nextOf p l.Pc := by
      show M.next p l.Pc l.Regs ∈ _
      unfold M.next M.nextOf
      rw [if_neg (by have := h.1; omega)]
      split
      · simp
      split
      · simp
      split
      · split <;> (rw [putTwo_mem]; simp)
      · simp
    have hin : M.nodeIn p (M.step p l).Pc := (next_ok ⟨hp, h0, by have := h.1; omega⟩).1 _ hn
    exact rch_via (b := l.Pc) (.step (.base (List.mem_singleton.2 rfl) (by omega)) hn (by have := hin.1; omega)) (alone_reach hp k _ R h.2 hin.1)
end Go.V
set_option linter.unusedVariables false
set_option linter.unusedSimpArgs false
set_option maxRecDepth 20000
namespace Go.V
def loc (n : Int) : List D.Frame → Nat → Int
  | [], _ => n
  | f :: r, i => if M.hasLane f.Mask (i : Int) = true then f.Pc else loc n r i
structure Under (A P : D.Frame) : Prop where
  stop : A.Stop = P.Pc
  sub : ∀ i : Nat, i < 8 → M.hasLane A.Mask (i : Int) = true → M.hasLane P.Mask (i : Int) = true
  less : M.countTo A.Mask 8 < M.countTo P.Mask 8
inductive Stk (n : Int) : List D.Frame → Prop
  | base {f : D.Frame} : f.Mask = 255 → f.Stop = n → Stk n [f]
  | one {A P : D.Frame} {r : List D.Frame} : Stk n (P :: r) → Under A P → Stk n (A :: P :: r)
  | two {B A P : D.Frame} {r : List D.Frame} : Stk n (P :: r) → Under A P → Under B P → (∀ i : Nat, i < 8 → M.hasLane A.Mask (i : Int) = true → ¬ M.hasLane B.Mask (i : Int) = true) → Stk n (B :: A :: P :: r)
theorem Stk.pop {n : Int} {f : D.Frame} {r : List D.Frame} (h : Stk n (f :: r)) (e : f.Pc = f.Stop) : (r = [] ∨ Stk n r) ∧ ∀ i : Nat, i < 8 → loc n r i = loc n (f :: r) i := by
  cases h with
  | base h1 h2 =>
    refine ⟨.inl rfl, fun i hi => ?_⟩
    simp only [loc]
    rw [h1, mask_full hi, if_pos rfl, e, h2]
  | one h1 h2 =>
    refine ⟨.inr h1, fun i hi => ?_⟩
    simp only [loc]
    by_cases g : M.hasLane f.Mask (i : Int) = true
    · rw [if_pos g, if_pos (h2.sub i hi g), e, h2.stop]
    · rw [if_neg g]
  | two h1 h2 h3 h4 =>
    refine ⟨.inr (.one h1 h2), fun i hi => ?_⟩
    simp only [loc]
    by_cases g : M.hasLane f.Mask (i : Int) = true
    · rw [if_pos g, if_neg (fun g' => h4 i hi g' g), if_pos (h3.sub i hi g), e, h3.stop]
    · rw [if_neg g]
theorem Stk.set {n : Int} {f : D.Frame} {r : List D.Frame} (h : Stk n (f :: r)) (pc : Int) : Stk n (⟨pc, f.Stop, f.Mask⟩ :: r) := by
  cases h with
  | base h1 h2 => exact .base h1 h2
  | one h1 h2 => exact .one h1 ⟨h2.stop, h2.sub, h2.less⟩
  | two h1 h2 h3 h4 => exact .two h1 h2 ⟨h3.stop, h3.sub, h3.less⟩ h4
theorem Stk.long {n : Int} {fs : List D.Frame} (h : Stk n fs) : ∀ f r, fs = f :: r → ((fs.length : Nat) : Int) ≤ 17 - 2 * M.countTo f.Mask 8 := by
  induction h with
  | base h1 h2 =>
    rintro f r e
    cases e
    have : M.countTo 255 8 = 8 := by decide
    rw [h1, this]; simp
  | one h1 h2 ih =>
    rintro f r e
    cases e
    have := ih _ _ rfl
    have := h2.less
    simp only [List.length_cons] at *
    omega
  | two h1 h2 h3 h4 ih =>
    rintro f r e
    cases e
    have := ih _ _ rfl
    have := h3.less
    simp only [List.length_cons] at *
    omega
def dropR (n : Int) : List D.Frame → List D.Frame
  | [] => []
  | f :: r => if f.Pc ≠ f.Stop ∧ f.Pc ≠ n then f :: r else dropR n r
theorem dropN_rev (fs : List D.Frame) (n : Int) : ∀ k, k ≤ fs.length → (M.dropN fs n k).reverse = dropR n (fs.take k).reverse
  | 0, _ => by simp [M.dropN, dropR]
  | k + 1, hk => by
    have ih := dropN_rev fs n k (by omega)
    rw [M.dropN, List.take_add_one, List.getElem?_eq_getElem (by omega : k < fs.length), Option.toList_some, List.reverse_append, List.reverse_singleton, List.singleton_append, dropR, rd_nat (by omega)]
    split
    · rw [List.reverse_append, List.reverse_singleton, List.singleton_append]
    · exact ih
theorem dropF_rev (fs : List D.Frame) (n : Int) : (M.dropF fs n).reverse = dropR n fs.reverse := by
  have := dropN_rev fs n fs.length (Nat.le_refl _)
  rw [List.take_length] at this
  exact this
theorem dropR_sub (n : Int) : ∀ fs : List D.Frame, ∀ f ∈ dropR n fs, f ∈ fs
  | [], f, h => h
  | g :: r, f, h => by
    rw [dropR] at h
    split at h
    · exact h
    · exact List.mem_cons_of_mem _ (dropR_sub n r f h)
theorem dropR_good {p : List D.Ins} : ∀ fs : List D.Frame, (fs = [] ∨ Stk p.length fs) → (∀ f ∈ fs, PD p f.Pc f.Stop) →
    (dropR p.length fs = [] ∨ Stk p.length (dropR p.length fs)) ∧ ∀ i : Nat, i < 8 → loc p.length (dropR p.length fs) i = loc p.length fs i
  | [], _, _ => ⟨.inl rfl, fun _ _ => rfl⟩
  | f :: r, h, hpd => by
    have h := h.resolve_left (by simp)
    rw [dropR]
    split
    · exact ⟨.inr h, fun _ _ => rfl⟩
    · rename_i e
      have hf := hpd f List.mem_cons_self
      have e' : f.Pc = f.Stop := by
        by_cases h1 : f.Pc = f.Stop
        · exact h1
        · have : f.Pc = ((p.length : Nat) : Int) := by
            by_cases h2 : f.Pc = ((p.length : Nat) : Int)
            · exact h2
            · exact absurd ⟨h1, h2⟩ e
          rw [this] at hf ⊢
          exact hf.exit.symm
      obtain ⟨g1, g2⟩ := h.pop e'
      obtain ⟨k1, k2⟩ := dropR_good r g1 fun g hg => hpd g (List.mem_cons_of_mem _ hg)
      exact ⟨k1, fun i hi => (k2 i hi).trans (g2 i hi)⟩
structure LInv (p : List D.Ins) (x : D.Warp) (rem : Nat → Nat) (R : Nat → List Int) : Prop where
  stk : x.Frames = [] ∨ Stk p.length x.Frames.reverse
  pd : ∀ f ∈ x.Frames, PD p f.Pc f.Stop
  lane : ∀ i : Nat, i < 8 → Alone p (rem i) ⟨x.Number * 8 + (i : Int), loc p.length x.Frames.reverse i, M.laneCut x.Regs i⟩ (R i)
theorem LInv.drop {p : List D.Ins} {x : D.Warp} {rem : Nat → Nat} {R : Nat → List Int} (h : LInv p x rem R) : LInv p (M.dropW x p.length) rem R := by
  have hs : x.Frames.reverse = [] ∨ Stk p.length x.Frames.reverse := h.stk.imp (fun e => by rw [e]; rfl) id
  obtain ⟨k1, k2⟩ := dropR_good x.Frames.reverse hs fun f hf => h.pd f (List.mem_reverse.1 hf)
  rw [← dropF_rev] at k1 k2
  refine ⟨k1.imp (fun e => List.reverse_eq_nil_iff.1 e) id, fun f hf => h.pd f ?_, fun i hi => ?_⟩
  · have : f ∈ dropR p.length x.Frames.reverse := by rw [← dropF_rev]; exact List.mem_reverse.2 hf
    exact List.mem_reverse.1 (dropR_sub _ _ f this)
  · have := h.lane i hi
    rw [← k2 i hi] at this
    exact this
theorem cut_put_same {r x : List Int} {l : Nat} (h : r.length = 32) (hl : l < 8) (hx : x.length = 4) : M.laneCut (M.putLane r l x) l = x := by
  apply List.ext_getElem?
  intro i
  rw [laneCut_get]
  by_cases hi : i < 4
  · rw [if_pos hi, putLane_get h hl hx, if_pos (by omega)]
    congr 1; omega
  · rw [if_neg hi, List.getElem?_eq_none (by omega)]
theorem applyTo_lane {i : D.Ins} {num m : Int} {r : List Int} (h : r.length = 32) : ∀ k, k ≤ 8 → ∀ j : Nat, j < k → M.laneCut (M.applyTo i num m r k) j = if M.hasLane m (j : Int) = true then M.apply i (num * 8 + (j : Int)) (M.laneCut r j) else M.laneCut r j
  | 0, _, j, hj => by omega
  | k + 1, hk, j, hj => by
    have hl := applyTo_len (i := i) (num := num) (m := m) h k (by omega)
    have ha : (M.apply i (num * 8 + (k : Int)) (M.laneCut r k)).length = 4 := by rw [apply_len, laneCut_len h (by omega)]
    simp only [M.applyTo]
    by_cases e : j = k
    · subst e
      by_cases g : M.hasLane m (j : Int) = true
      · rw [if_pos g, if_pos g, cut_put_same hl (by omega) ha]
      · rw [if_neg g, if_neg g, applyTo_cut h j (by omega) j (Nat.le_refl _)]
    · have ih := applyTo_lane (i := i) (num := num) (m := m) h k (by omega) j (by omega)
      split
      · rw [cut_put_other hl (by omega) ha e, ih]
      · exact ih
theorem applyAll_lane {i : D.Ins} {num m : Int} {r : List Int} (h : r.length = 32) {j : Nat} (hj : j < 8) : M.laneCut (M.applyAll i num m r) j = if M.hasLane m (j : Int) = true then M.apply i (num * 8 + (j : Int)) (M.laneCut r j) else M.laneCut r j :=
  applyTo_lane h 8 (Nat.le_refl _) j hj
theorem rd_lane {r : List Int} (h : r.length = 32) {j : Nat} (hj : j < 8) {a : Int} (ha : M.isReg a = true) : rd (M.laneCut r j) a = rd r ((j : Int) * 4 + a) := by
  rw [isReg_iff] at ha
  unfold M.laneCut
  rw [rd_cut ha.1 (by omega) (by omega), show ((j * 4 : Nat) : Int) = (j : Int) * 4 by push_cast; rfl]
theorem setTop_app (bs : List D.Frame) (f : D.Frame) (pc : Int) : M.setTop (bs ++ [f]) pc = bs ++ [⟨pc, f.Stop, f.Mask⟩] := by
  have hl : M.lastF (bs ++ [f]) = f := by
    unfold M.lastF
    rw [List.length_append, List.length_singleton, show (((bs.length + 1 : Nat) : Int) - 1) = ((bs.length : Nat) : Int) by omega, rd_nat (by simp), List.getElem_append_right (Nat.le_refl _)]
    simp
  unfold M.setTop
  rw [hl, List.length_append, List.length_singleton, Nat.add_sub_cancel, List.set_append_right _ _ (Nat.le_refl _), Nat.sub_self]; rfl
theorem lastF_app (bs : List D.Frame) (f : D.Frame) : M.lastF (bs ++ [f]) = f := by
  unfold M.lastF
  rw [List.length_append, List.length_singleton, show (((bs.length + 1 : Nat) : Int) - 1) = ((bs.length : Nat) : Int) by omega, rd_nat (by simp), List.getElem_append_right (Nat.le_refl _)]
  simp
theorem app_last {fs : List D.Frame} (h : fs ≠ []) : ∃ bs, fs = bs ++ [M.lastF fs] := by
  refine ⟨fs.dropLast, ?_⟩
  have e := (List.dropLast_concat_getLast h).symm
  have : M.lastF fs = fs.getLast h := by
    have h2 : M.lastF fs = M.lastF (fs.dropLast ++ [fs.getLast h]) := by rw [← e]
    rw [h2, lastF_app]
  rw [this]; exact e
theorem top_ends {p : List D.Ins} {x : D.Warp} (h : M.Runs p x) : (M.lastF x.Frames).Pc ≠ (M.lastF x.Frames).Stop ∧ (M.lastF x.Frames).Mask ≠ 0 := by
  obtain ⟨hp, hw, hx⟩ := h
  simp only [M.warpOf, M.areFrames, Bool.and_eq_true, Bool.or_eq_true] at hw
  obtain ⟨h1, h2, h3, h4, h5⟩ := hw
  have h5 := h5.resolve_left (by simpa using hx)
  have hf := List.all_eq_true.1 h4 _ (mem_lastF hx)
  simp only [M.endsOk, M.frameOk, Bool.and_eq_true, decide_eq_true_eq, beq_iff_eq, bne_iff_ne] at h5 hf
  exact ⟨h5.2.1, hf.2.2.2⟩
theorem turn_next {p : List D.Ins} {x : D.Warp} (h : M.Runs p x) : M.turnPc p x ∈ M.nextOf p (M.topPc x) := by
  obtain ⟨t1, t2, t3, t4, t5, t6, t7, t8, t9⟩ := runs_top h
  unfold M.turnPc M.nextOf
  rw [if_neg (show ¬ M.topPc x = ((p.length : Nat) : Int) by omega), show rd p (M.topPc x) = M.topIns p x from rfl]
  by_cases h12 : (M.topIns p x).Op = 12
  · rw [if_pos h12, if_pos h12]; simp
  rw [if_neg h12, if_neg h12]
  by_cases h11 : (M.topIns p x).Op = 11
  · rw [if_pos h11, if_pos h11]; simp
  rw [if_neg h11, if_neg h11]
  by_cases h10 : (M.topIns p x).Op = 10
  · rw [if_pos h10]
    split <;> (rw [putTwo_mem]; simp)
  · rw [if_neg h10, if_neg (fun h => h10 h.1)]; simp
theorem firstS_prop {p : List D.Ins} {all : List Int} : ∀ l : List Int, M.firstS p all l ≠ -1 → all.all (M.afterB p (M.firstS p all l)) = true
  | [], h => absurd rfl h
  | y :: l, h => by
    rw [M.firstS] at h ⊢
    split at h
    · rename_i e; rw [if_pos e]; exact e
    · rename_i e; rw [if_neg e]; exact firstS_prop l h
theorem next_turn {p : List D.Ins} {x : D.Warp} (h : M.Runs p x) (hs : M.splits p x = false) {i : Nat} (hi : i < 8) (ha : M.hasLane (M.lastF x.Frames).Mask (i : Int) = true) : M.next p (M.topPc x) (M.laneCut x.Regs i) = M.turnPc p x := by
  obtain ⟨t1, t2, t3, t4, t5, t6, t7, t8, t9⟩ := runs_top h
  obtain ⟨f1, f2, f3, f4, f5, f6⟩ := runs_frames h
  have hact := activeMask_top h.2.2
  have e : rd p (M.topPc x) = M.topIns p x := rfl
  unfold M.next M.turnPc
  rw [e]
  split
  · rfl
  split
  · rfl
  by_cases h10 : (M.topIns p x).Op = 10
  · rw [if_pos h10]
    have hreg := zero_reg t7 h10
    rw [rd_lane t4 hi hreg]
    have hz := zero_has (x := x) (reg := (M.topIns p x).A) hi
    rw [hact] at hz
    obtain ⟨m1, m2, m3⟩ := mask_part (x := x) (reg := (M.topIns p x).A) (by rw [hact]; exact f5)
    by_cases hB : (M.topIns p x).B = M.topPc x + 1
    · rw [hB]; simp
    · simp only [M.splits, h10, Bool.and_eq_false_iff, bne_eq_false_iff_eq, beq_self_eq_true, Bool.true_and] at hs
      have hs := hs.resolve_left (by simpa using hB)
      by_cases g : rd x.Regs ((i : Int) * 4 + (M.topIns p x).A) = 0
      · rw [if_pos g]
        have hzi := hz.2 ⟨ha, g⟩
        rcases hs with hs | hs
        · rw [hs, mask_zero i hi] at hzi; cases hzi
        · rw [if_pos ⟨h10, hs⟩]
      · rw [if_neg g]
        rcases hs with hs | hs
        · have hne : M.zeroMask x (M.topIns p x).A ≠ (M.lastF x.Frames).Mask := by
            rw [hs]; exact (top_ends h).2.symm
          rw [if_neg (fun h => hne h.2)]
        · rw [← hs] at ha
          exact absurd (hz.1 ha).2 g
  · rw [if_neg h10, if_neg (fun h => h10 h.1)]
theorem LInv.step {p : List D.Ins} {x : D.Warp} {rem : Nat → Nat} {R : Nat → List Int} (h : LInv p x rem R) (hq : M.isQuiet p = true) (hF : M.Fine p x) (hx : x.Frames ≠ []) :
    M.spec_l13Local p x = true ∧ ∃ rem' : Nat → Nat, LInv p (M.stepW p x) rem' R ∧ ∀ i : Nat, i < 8 → rem i = rem' i + if M.hasLane (M.activeMask x) (i : Int) = true then 1 else 0 := by
  have hr : M.Runs p x := ⟨hF.1, hF.2, hx⟩
  obtain ⟨t1, t2, t3, t4, t5, t6, t7, t8, t9⟩ := runs_top hr
  obtain ⟨f1, f2, f3, f4, f5, f6⟩ := runs_frames hr
  obtain ⟨e1, e2⟩ := top_ends hr
  have hact := activeMask_top hx
  obtain ⟨bs, hbs⟩ := app_last hx
  have hrev : x.Frames.reverse = M.lastF x.Frames :: bs.reverse := by
    conv => lhs; rw [hbs]
    rw [List.reverse_append, List.reverse_singleton, List.singleton_append]
  have hstk := h.stk.resolve_left hx
  rw [hrev] at hstk
  have hpdf := h.pd _ (mem_lastF hx)
  have hpdb : ∀ f ∈ bs, PD p f.Pc f.Stop := fun f hf => h.pd f (by rw [hbs]; exact List.mem_append_left _ hf)
  have hlen : x.Frames.length ≤ 15 := by
    have h1 := hstk.long _ _ rfl
    have h2 : (M.lastF x.Frames :: bs.reverse).length = x.Frames.length := by rw [← hrev, List.length_reverse]
    obtain ⟨i, hi, hh⟩ := mask_some f5 e2
    have := count_one hi hh
    rw [h2] at h1
    omega
  have hlocal : M.isLocal (M.topIns p x) = true := quiet_local hq t5 t6
  have hl : M.spec_l13Local p x = true := by
    unfold M.spec_l13Local
    rw [hlocal]
    have : x.Frames.isEmpty = false := by simpa using hx
    rw [this, decide_eq_true (by omega : x.Frames.length ≤ 22)]
    simp
  refine ⟨hl, ?_⟩
  have hloc : ∀ i : Nat, loc p.length x.Frames.reverse i = if M.hasLane (M.lastF x.Frames).Mask (i : Int) = true then M.topPc x else loc p.length bs.reverse i := fun i => by rw [hrev]; rfl
  -- lanes: those active go one step
  have hgo : ∀ i : Nat, i < 8 → M.hasLane (M.lastF x.Frames).Mask (i : Int) = true → ∃ j, rem i = j + 1 ∧ Alone p j ⟨x.Number * 8 + (i : Int), M.next p (M.topPc x) (M.laneCut x.Regs i), M.apply (M.topIns p x) (x.Number * 8 + (i : Int)) (M.laneCut x.Regs i)⟩ (R i) := fun i hi ha => by
    have hL := h.lane i hi
    rw [hloc i, if_pos ha] at hL
    exact hL.go (by show M.topPc x ≠ _; omega)
  let rem' : Nat → Nat := fun i => if M.hasLane (M.lastF x.Frames).Mask (i : Int) = true then rem i - 1 else rem i
  have hrem : ∀ i : Nat, i < 8 → rem i = rem' i + if M.hasLane (M.activeMask x) (i : Int) = true then 1 else 0 := fun i hi => by
    rw [hact]
    show rem i = (if _ then _ else _) + _
    by_cases ha : M.hasLane (M.lastF x.Frames).Mask (i : Int) = true
    · obtain ⟨j, hj, _⟩ := hgo i hi ha
      rw [if_pos ha, if_pos ha]; omega
    · rw [if_neg ha, if_neg ha]; rfl
  refine ⟨rem', ?_, hrem⟩
  unfold M.stepW
  by_cases hs : M.splits p x = true
  · rw [if_pos hs]
    obtain ⟨⟨h10, hB⟩, hz0, hzm⟩ := splits_iff hs
    have hbr := split_branch hr ⟨h10, hB⟩
    obtain ⟨m1, m2, m3⟩ := mask_part (x := x) (reg := (M.topIns p x).A) (by rw [hact]; exact f5)
    have hz := fun (i : Nat) (hi : i < 8) => zero_has (x := x) (reg := (M.topIns p x).A) hi
    have hm := fun (i : Nat) (hi : i < 8) => minus_has (x := x) (reg := (M.topIns p x).A) (by rw [hact]; exact f5) hi
    rw [hact] at m2 m3 hz hm
    have hreg := zero_reg t7 h10
    have hN : M.Node p (M.topPc x) := ⟨hF.1, by omega, by omega⟩
    have hnx : M.nextOf p (M.topPc x) = M.putTwo (M.topPc x + 1) (M.topIns p x).B := by
      unfold M.nextOf
      rw [if_neg (by omega), show rd p (M.topPc x) = M.topIns p x from rfl, if_neg (by omega), if_neg (by omega), if_pos h10]
    have hn1 : M.topPc x + 1 ∈ M.nextOf p (M.topPc x) := by rw [hnx, putTwo_mem]; simp
    have hn2 : (M.topIns p x).B ∈ M.nextOf p (M.topPc x) := by rw [hnx, putTwo_mem]; simp
    have hin1 := (next_ok hN).1 _ hn1
    have hin2 := (next_ok hN).1 _ hn2
    have hnext : ∀ i : Nat, i < 8 → M.next p (M.topPc x) (M.laneCut x.Regs i) = if rd x.Regs ((i : Int) * 4 + (M.topIns p x).A) = 0 then (M.topIns p x).B else M.topPc x + 1 := fun i hi => by
      unfold M.next
      rw [show rd p (M.topPc x) = M.topIns p x from rfl, if_neg (by omega), if_neg (by omega), if_pos h10, rd_lane t4 hi hreg]
    have happ : ∀ i : Nat, M.apply (M.topIns p x) (x.Number * 8 + (i : Int)) (M.laneCut x.Regs i) = M.laneCut x.Regs i := fun i => by
      unfold M.apply
      rw [if_neg (by omega), if_neg (by omega), if_neg (by omega), if_neg (by omega), if_neg (by omega), if_neg (by omega), if_neg (by omega), if_neg (by omega), if_neg (by omega)]
    -- a lane on each side
    obtain ⟨iz, hiz, hzi⟩ := mask_some m1 hz0
    obtain ⟨im, him, hmi⟩ : ∃ i : Nat, i < 8 ∧ M.hasLane (bitNot .i64 (M.lastF x.Frames).Mask (M.zeroMask x (M.topIns p x).A)) (i : Int) = true := by
      have : ∃ i : Nat, i < 8 ∧ M.hasLane (M.lastF x.Frames).Mask (i : Int) = true ∧ ¬ M.hasLane (M.zeroMask x (M.topIns p x).A) (i : Int) = true := by
        apply Classical.byContradiction
        intro hno
        apply hzm
        refine mask_ext m1 f5 fun i hi => ?_
        by_cases g : M.hasLane (M.lastF x.Frames).Mask (i : Int) = true
        · have : M.hasLane (M.zeroMask x (M.topIns p x).A) (i : Int) = true := by
            apply Classical.byContradiction
            intro g'
            exact hno ⟨i, hi, g, g'⟩
          rw [g, this]
        · have : ¬ M.hasLane (M.zeroMask x (M.topIns p x).A) (i : Int) = true := fun g' => g ((hz i hi).1 g').1
          rw [Bool.not_eq_true] at g this
          rw [g, this]
      obtain ⟨i, hi, g⟩ := this
      exact ⟨i, hi, (hm i hi).2 g⟩
    have hmz := (hm im him).1 hmi
    have hzz := (hz iz hiz).1 hzi
    have hmnz : ¬ rd x.Regs ((im : Int) * 4 + (M.topIns p x).A) = 0 := fun g => hmz.2 ((hz im him).2 ⟨hmz.1, g⟩)
    -- both successors reach the exit
    have hn : M.nodeIn p ((p.length : Nat) : Int) := ⟨by omega, by omega⟩
    have ex1 : M.exitB p (M.topPc x + 1) = true := by
      obtain ⟨j, _, hj⟩ := hgo im him hmz.1
      rw [hnext im him, if_neg hmnz] at hj
      exact (reached_iff hF.1 (fun x hx => by obtain rfl := List.mem_singleton.1 hx; exact hin1) hn).2 (alone_reach hF.1 j _ _ hj hin1.1)
    have ex2 : M.exitB p (M.topIns p x).B = true := by
      obtain ⟨j, _, hj⟩ := hgo iz hiz hzz.1
      rw [hnext iz hiz, if_pos hzz.2] at hj
      exact (reached_iff hF.1 (fun x hx => by obtain rfl := List.mem_singleton.1 hx; exact hin2) hn).2 (alone_reach hF.1 j _ _ hj hin2.1)
    have hjoin : M.joinB p (M.topPc x) = M.firstAfter p (M.topPc x) := by
      unfold M.joinB
      rw [if_pos (by rw [ex1, show rd p (M.topPc x) = M.topIns p x from rfl, ex2]; rfl)]
    have exb : M.exitB p (M.topPc x) = true := by
      refine (reached_iff hF.1 (fun x hx => by obtain rfl := List.mem_singleton.1 hx; exact hN.2) hn).2 ?_
      have hx1 := (reached_iff hF.1 (fun x hx => by obtain rfl := List.mem_singleton.1 hx; exact hin1) hn).1 ex1
      exact rch_via (b := M.topPc x) (y := -1) (.step (.base (List.mem_singleton.2 rfl) (by omega)) hn1 (by have := hin1.1; omega)) hx1
    have hfi := first_in hN (by omega) exb
    obtain ⟨fN, fne, _, fA⟩ := afters_nodes hfi
    have hmem : ∀ r, M.nodeIn p r → r ≠ M.topPc x → PD p (M.topPc x) r → r ∈ M.others (M.aftersOf p (M.topPc x)) (M.topPc x) := by
      intro r hr hrb ha
      unfold M.others M.aftersOf
      rw [if_pos (by simp only [Bool.and_eq_true]; exact ⟨isNode_iff.2 hN, exb⟩)]
      refine List.mem_filter.2 ⟨mem_idx.2 ⟨r.toNat, by unfold M.nodeIn at hr; omega, by unfold M.nodeIn at hr; omega, (afterB_iff hN).2 ha⟩, by simpa using hrb⟩
    have hfall : (M.others (M.aftersOf p (M.topPc x)) (M.topPc x)).all (M.afterB p (M.firstAfter p (M.topPc x))) = true := firstS_prop _ (by
      have := fN.2.1
      show M.firstAfter p (M.topPc x) ≠ -1
      omega)
    have hpdj : PD p (M.topPc x) (M.joinB p (M.topPc x)) := by rw [hjoin]; exact (afterB_iff hN).1 fA
    have hjne : M.topPc x ≠ M.joinB p (M.topPc x) := by
      rw [hjoin]
      have := (List.mem_filter.1 hfi).2
      intro e
      rw [← e] at this
      simp at this
    have hstop : M.nodeIn p (M.lastF x.Frames).Stop := by
      have := List.all_eq_true.1 f1 _ (mem_lastF hx)
      simp only [M.frameOk, M.isIn, Bool.and_eq_true, decide_eq_true_eq] at this
      exact this.2.1
    have hpds : PD p (M.joinB p (M.topPc x)) (M.lastF x.Frames).Stop := by
      have := List.all_eq_true.1 hfall _ (hmem _ hstop (Ne.symm e1) hpdf)
      rw [hjoin]
      exact (afterB_iff fN).1 this
    apply LInv.drop
    let P : D.Frame := ⟨M.joinB p (M.topPc x), (M.lastF x.Frames).Stop, (M.lastF x.Frames).Mask⟩
    let A : D.Frame := ⟨M.topPc x + 1, M.joinB p (M.topPc x), bitNot .i64 (M.lastF x.Frames).Mask (M.zeroMask x (M.topIns p x).A)⟩
    let B : D.Frame := ⟨(M.topIns p x).B, M.joinB p (M.topPc x), M.zeroMask x (M.topIns p x).A⟩
    have hfr : (M.separated p x).Frames = bs ++ [P] ++ [A, B] := by
      show M.setTop x.Frames _ ++ _ = _
      congr 1
      conv => lhs; rw [hbs]
      exact setTop_app bs _ _
    have hrev' : (M.separated p x).Frames.reverse = B :: A :: P :: bs.reverse := by
      rw [hfr]; simp
    have hnum : (M.separated p x).Number = x.Number := rfl
    have hregs : (M.separated p x).Regs = x.Regs := rfl
    refine ⟨.inr ?_, fun f hf => ?_, fun i hi => ?_⟩
    · rw [hrev']
      refine .two (hstk.set _) ⟨rfl, fun i hi g => ((hm i hi).1 g).1, ?_⟩ ⟨rfl, fun i hi g => ((hz i hi).1 g).1, ?_⟩ fun i hi g => ((hm i hi).1 g).2
      · exact countTo_lt hzz.1 (fun g => ((hm iz hiz).1 g).2 hzi) 8 (Nat.le_refl _) hiz fun i hi g => ((hm i hi).1 g).1
      · exact countTo_lt hmz.1 hmz.2 8 (Nat.le_refl _) him fun i hi g => ((hz i hi).1 g).1
    · rw [hfr] at hf
      rcases List.mem_append.1 hf with hf | hf
      · rcases List.mem_append.1 hf with hf | hf
        · exact hpdb f hf
        · obtain rfl := List.mem_singleton.1 hf
          exact hpds
      · simp only [List.mem_cons, List.not_mem_nil, or_false] at hf
        rcases hf with rfl | rfl
        · exact hpdj.next hjne hn1
        · exact hpdj.next hjne hn2
    · rw [hrev', hnum, hregs]
      show Alone p (if _ then _ else _) ⟨_, (if M.hasLane (M.zeroMask x (M.topIns p x).A) (i : Int) = true then (M.topIns p x).B else if M.hasLane (bitNot .i64 (M.lastF x.Frames).Mask (M.zeroMask x (M.topIns p x).A)) (i : Int) = true then M.topPc x + 1 else if M.hasLane (M.lastF x.Frames).Mask (i : Int) = true then M.joinB p (M.topPc x) else loc p.length bs.reverse i), _⟩ _
      by_cases ha : M.hasLane (M.lastF x.Frames).Mask (i : Int) = true
      · obtain ⟨j, hj, hA⟩ := hgo i hi ha
        rw [hnext i hi, happ i] at hA
        rw [if_pos ha, hj, Nat.add_sub_cancel]
        by_cases g : rd x.Regs ((i : Int) * 4 + (M.topIns p x).A) = 0
        · rw [if_pos ((hz i hi).2 ⟨ha, g⟩)]
          rw [if_pos g] at hA
          exact hA
        · have hnz : ¬ M.hasLane (M.zeroMask x (M.topIns p x).A) (i : Int) = true := fun g' => g ((hz i hi).1 g').2
          rw [if_neg hnz, if_pos ((hm i hi).2 ⟨ha, hnz⟩)]
          rw [if_neg g] at hA
          exact hA
      · rw [if_neg ha, if_neg (fun g => ha ((hz i hi).1 g).1), if_neg (fun g => ha ((hm i hi).1 g).1), if_neg ha]
        have := h.lane i hi
        rw [hloc i, if_neg ha] at this
        exact this
  · rw [if_neg hs]
    have hs : M.splits p x = false := by simpa using hs
    apply LInv.drop
    have hfr : (M.advance p x).Frames = bs ++ [⟨M.turnPc p x, (M.lastF x.Frames).Stop, (M.lastF x.Frames).Mask⟩] := by
      show M.setTop x.Frames (M.turnPc p x) = _
      conv => lhs; rw [hbs]
      exact setTop_app bs _ _
    have hrev' : (M.advance p x).Frames.reverse = ⟨M.turnPc p x, (M.lastF x.Frames).Stop, (M.lastF x.Frames).Mask⟩ :: bs.reverse := by
      rw [hfr, List.reverse_append, List.reverse_singleton, List.singleton_append]
    refine ⟨.inr ?_, fun f hf => ?_, fun i hi => ?_⟩
    · rw [hrev']; exact hstk.set _
    · rw [hfr] at hf
      rcases List.mem_append.1 hf with hf | hf
      · exact hpdb f hf
      · obtain rfl := List.mem_singleton.1 hf
        exact hpdf.next e1 (turn_next hr)
    · rw [hrev']
      have hnum : (M.advance p x).Number = x.Number := rfl
      have hregs : (M.advance p x).Regs = M.applyAll (M.topIns p x) x.Number (M.lastF x.Frames).Mask x.Regs := rfl
      rw [hnum, hregs, applyAll_lane t4 hi]
      show Alone p (if _ then _ else _) ⟨_, (if _ then _ else _), _⟩ _
      by_cases ha : M.hasLane (M.lastF x.Frames).Mask (i : Int) = true
      · obtain ⟨j, hj, hA⟩ := hgo i hi ha
        rw [if_pos ha, if_pos ha, if_pos ha, hj, Nat.add_sub_cancel, ← next_turn hr hs hi ha]
        exact hA
      · rw [if_neg ha, if_neg ha, if_neg ha]
        have := h.lane i hi
        rw [hloc i, if_neg ha] at this
        exact this
end Go.V
set_option linter.unusedVariables false
set_option linter.unusedSimpArgs false
set_option maxRecDepth 20000
namespace Go.V
def Walk (p : List D.Ins) : Nat → D.Lane → D.Lane → Prop
  | 0, l, m => l = m
  | k + 1, l, m => l.Pc < ((p.length : Nat) : Int) ∧ Walk p k (M.step p l) m
theorem Walk.trans {p : List D.Ins} : ∀ {a b : Nat} {l m n : D.Lane}, Walk p a l m → Walk p b m n → Walk p (a + b) l n
  | 0, b, l, m, n, h, k => by rw [Nat.zero_add]; have h : l = m := h; rw [h]; exact k
  | a + 1, b, l, m, n, h, k => by rw [show a + 1 + b = (a + b) + 1 by omega]; exact ⟨h.1, Walk.trans h.2 k⟩
theorem Walk.ok {p : List D.Ins} : ∀ {a : Nat} {l m : D.Lane}, Walk p a l m → M.laneOk p l = true → M.laneOk p m = true
  | 0, l, m, h, hl => by have h : l = m := h; rw [← h]; exact hl
  | a + 1, l, m, h, hl => Walk.ok h.2 (laneOk_step hl h.1)
theorem Walk.alone {p : List D.Ins} : ∀ {a : Nat} {l m : D.Lane}, Walk p a l m → m.Pc = ((p.length : Nat) : Int) → Alone p a l m.Regs
  | 0, l, m, h, hm => by have h : l = m := h; rw [h]; exact ⟨hm, rfl⟩
  | a + 1, l, m, h, hm => ⟨h.1, Walk.alone h.2 hm⟩
def Agrees (p : List D.Ins) (b : Nat) (s : List D.Ins) : Prop := b + s.length ≤ p.length ∧ ∀ j : Nat, j < s.length → rd p ((b + j : Nat) : Int) = rd s (j : Int) ∨ rd p ((b + j : Nat) : Int) = ⟨12, 0, 0, 0⟩
theorem rd_left {α : Type} [Inhabited α] {s t : List α} {j : Nat} (hj : j < s.length) : rd (s ++ t) (j : Int) = rd s (j : Int) := by
  rw [rd_nat (by rw [List.length_append]; omega), List.getElem_append_left hj, rd_nat hj]
theorem rd_right {α : Type} [Inhabited α] {s t : List α} {j : Nat} (hj : j < t.length) : rd (s ++ t) ((s.length + j : Nat) : Int) = rd t (j : Int) := by
  rw [rd_nat (by rw [List.length_append]; omega), List.getElem_append_right (by omega), rd_nat hj]
  simp
theorem Agrees.left {p : List D.Ins} {b : Nat} {s t : List D.Ins} (h : Agrees p b (s ++ t)) : Agrees p b s := by
  refine ⟨by have := h.1; rw [List.length_append] at this; omega, fun j hj => ?_⟩
  have := h.2 j (by rw [List.length_append]; omega)
  rwa [rd_left hj] at this
theorem Agrees.right {p : List D.Ins} {b : Nat} {s t : List D.Ins} (h : Agrees p b (s ++ t)) : Agrees p (b + s.length) t := by
  refine ⟨by have := h.1; rw [List.length_append] at this; omega, fun j hj => ?_⟩
  have := h.2 (s.length + j) (by rw [List.length_append]; omega)
  rwa [rd_right hj, ← Nat.add_assoc] at this
theorem Agrees.head {p : List D.Ins} {b : Nat} {i : D.Ins} {s : List D.Ins} (h : Agrees p b (i :: s)) : rd p (b : Int) = i ∨ rd p (b : Int) = ⟨12, 0, 0, 0⟩ := h.2 0 (by simp)
theorem Agrees.tail {p : List D.Ins} {b : Nat} {i : D.Ins} {s : List D.Ins} (h : Agrees p b (i :: s)) : Agrees p (b + 1) s := by
  refine ⟨by have := h.1; rw [List.length_cons] at this; omega, fun j hj => ?_⟩
  have := h.2 (j + 1) (by rw [List.length_cons]; omega)
  rw [show b + (j + 1) = b + 1 + j by omega] at this
  have e : rd (i :: s) ((j + 1 : Nat) : Int) = rd s (j : Int) := by rw [rd_nat (by simp; omega), rd_nat hj]; rfl
  rwa [e] at this
def Comes (p : List D.Ins) (l : D.Lane) (e c : Nat) : Prop := ∃ k m, k ≤ c ∧ Walk p k l m ∧ (m.Pc = (e : Int) ∨ m.Pc = ((p.length : Nat) : Int))
theorem Comes.mono {p : List D.Ins} {l : D.Lane} {e c d : Nat} (h : Comes p l e c) (hd : c ≤ d) : Comes p l e d := by
  obtain ⟨k, m, h1, h2, h3⟩ := h
  exact ⟨k, m, by omega, h2, h3⟩
theorem Comes.step {p : List D.Ins} {l : D.Lane} {e c : Nat} (h : l.Pc < ((p.length : Nat) : Int)) (hc : Comes p (M.step p l) e c) : Comes p l e (c + 1) := by
  obtain ⟨k, m, h1, h2, h3⟩ := hc
  exact ⟨k + 1, m, by omega, ⟨h, h2⟩, h3⟩
theorem Comes.then {p : List D.Ins} {l : D.Lane} {e f c d : Nat} (hl : M.laneOk p l = true) (h : Comes p l e c) (k : ∀ m, M.laneOk p m = true → m.Pc = (e : Int) → Comes p m f d) : Comes p l f (c + d) := by
  obtain ⟨k1, m, h1, h2, h3⟩ := h
  rcases h3 with h3 | h3
  · obtain ⟨k2, n, g1, g2, g3⟩ := k m (h2.ok hl) h3
    exact ⟨k1 + k2, n, by omega, h2.trans g2, g3⟩
  · exact ⟨k1, m, by omega, h2, .inr h3⟩
end Go.V
set_option linter.unusedVariables false
set_option linter.unusedSimpArgs false
set_option maxRecDepth 20000
namespace Go.V
def sumTo (f : Nat → Nat) : Nat → Nat
  | 0 => 0
  | k + 1 => sumTo f k + f k
theorem sum_count {f g : Nat → Nat} {m : Int} : ∀ k : Nat, k ≤ 8 → (∀ i : Nat, i < k → f i = g i + if M.hasLane m (i : Int) = true then 1 else 0) → ((sumTo f k : Nat) : Int) = ((sumTo g k : Nat) : Int) + M.countTo m k
  | 0, _, _ => by simp [sumTo, M.countTo]
  | k + 1, hk, h => by
    have ih := sum_count k (by omega) fun i hi => h i (by omega)
    have hk := h k (by omega)
    simp only [sumTo, M.countTo]
    split at hk
    · rename_i e; rw [if_pos e]; omega
    · rename_i e; rw [if_neg e]; omega
def csum (p : List D.Ins) (x : D.Warp) : Nat → Int
  | 0 => 0
  | k + 1 => csum p x k + M.countTo (M.activeMask (M.wAt p x k)) 8
theorem trace {p : List D.Ins} {x : D.Warp} {rem : Nat → Nat} {R : Nat → List Int} (h : LInv p x rem R) (hq : M.isQuiet p = true) (hF : M.Fine p x) :
    ∀ j : Nat, (∀ k, k < j → (M.wAt p x k).Frames ≠ []) → ∃ rem' : Nat → Nat, LInv p (M.wAt p x j) rem' R ∧ M.Fine p (M.wAt p x j) ∧ (∀ i : Nat, i < 8 → rem' i ≤ rem i ∧ rem i ≤ rem' i + j) ∧
      csum p x j + ((sumTo rem' 8 : Nat) : Int) = ((sumTo rem 8 : Nat) : Int) ∧ (j : Int) ≤ csum p x j ∧ ∀ k, k < j → M.spec_l13Local p (M.wAt p x k) = true
  | 0, _ => ⟨rem, h, hF, fun i _ => ⟨Nat.le_refl _, by omega⟩, by simp [csum], by simp [csum], fun k hk => by omega⟩
  | j + 1, hj => by
    obtain ⟨rem', g1, g2, g3, g4, g5, g6⟩ := trace h hq hF j fun k hk => hj k (by omega)
    have hne := hj j (by omega)
    obtain ⟨l1, rem2, l2, l3⟩ := g1.step hq g2 hne
    have hc := sum_count 8 (Nat.le_refl _) l3
    have hr : M.Runs p (M.wAt p x j) := ⟨g2.1, g2.2, hne⟩
    obtain ⟨i, hi, ha⟩ := mask_some (runs_frames hr).2.2.2.2.1 (top_ends hr).2
    have h1 := count_one hi ha
    rw [← activeMask_top hne] at h1
    refine ⟨rem2, l2, stepW_fine (goes_of g2 l1), fun i hi => ?_, ?_, ?_, fun k hk => ?_⟩
    · have := g3 i hi
      have := l3 i hi
      split at this <;> omega
    · rw [csum]; omega
    · rw [csum]; push_cast; omega
    · by_cases e : k = j
      · rw [e]; exact l1
      · exact g6 k (by omega)
theorem least {P : Nat → Prop} : ∀ n : Nat, P n → ∃ m, m ≤ n ∧ P m ∧ ∀ k, k < m → ¬ P k
  | n, h => by
    by_cases e : ∃ k, k < n ∧ P k
    · obtain ⟨k, hk, hp⟩ := e
      obtain ⟨m, h1, h2, h3⟩ := least k hp
      exact ⟨m, by omega, h2, h3⟩
    · exact ⟨n, Nat.le_refl _, h, fun k hk hp => e ⟨k, hk, hp⟩⟩
theorem run_ends {p : List D.Ins} {x : D.Warp} {rem : Nat → Nat} {R : Nat → List Int} (h : LInv p x rem R) (hq : M.isQuiet p = true) (hF : M.Fine p x) :
    ∃ m : Nat, (m : Int) ≤ ((sumTo rem 8 : Nat) : Int) ∧ (M.wAt p x m).Frames = [] ∧ ∀ k, k < m → (M.wAt p x k).Frames ≠ [] := by
  have : ∃ m, m ≤ sumTo rem 8 + 1 ∧ (M.wAt p x m).Frames = [] := by
    apply Classical.byContradiction
    intro hno
    have hall : ∀ k, k < sumTo rem 8 + 1 → (M.wAt p x k).Frames ≠ [] := fun k hk e => hno ⟨k, by omega, e⟩
    obtain ⟨rem', g1, g2, g3, g4, g5, g6⟩ := trace h hq hF _ hall
    omega
  obtain ⟨m, _, hm⟩ := this
  obtain ⟨m', h1, h2, h3⟩ := least (P := fun k => (M.wAt p x k).Frames = []) m hm
  obtain ⟨rem', g1, g2, g3, g4, g5, g6⟩ := trace h hq hF m' h3
  exact ⟨m', by omega, h2, h3⟩
theorem runW_to {p : List D.Ins} : ∀ (m n : Nat) (x : D.Warp) (c : Int), m ≤ n → (∀ k, k < m → M.spec_l13Local p (M.wAt p x k) = true) → M.spec_l13Local p (M.wAt p x m) = false → M.runW p n x c = (M.wAt p x m, c + (m : Int))
  | 0, n, x, c, _, _, h => by rw [runW_stop p n x c h]; simp [M.wAt]
  | m + 1, 0, x, c, hm, _, _ => by omega
  | m + 1, n + 1, x, c, hm, hl, h => by
    have h0 : M.spec_l13Local p x = true := hl 0 (by omega)
    simp only [M.runW]
    rw [if_pos h0, runW_to m n (M.stepW p x) (c + 1) (by omega) (fun k hk => by rw [wAt_shift]; exact hl (k + 1) (by omega)) (by rw [wAt_shift]; exact h), wAt_shift]
    congr 1
    push_cast; omega
theorem cuts_all (r : List Int) : ∀ k : Nat, (List.range k).flatMap (M.laneCut r) = r.take (k * 4)
  | 0 => by simp
  | k + 1 => by
    rw [List.range_succ, List.flatMap_append, cuts_all r k, List.flatMap_singleton]
    unfold M.laneCut
    have : r.take (k * 4) = (r.take (k * 4 + 4)).take (k * 4) := by rw [List.take_take, Nat.min_eq_left (by omega)]
    rw [this, List.take_append_drop, show (k + 1) * 4 = k * 4 + 4 by omega]
theorem flat_same {α β : Type} {f g : α → List β} : ∀ l : List α, (∀ x ∈ l, f x = g x) → l.flatMap f = l.flatMap g
  | [], _ => rfl
  | x :: l, h => by
    rw [List.flatMap_cons, List.flatMap_cons, h x List.mem_cons_self, flat_same l fun y hy => h y (List.mem_cons_of_mem _ hy)]
theorem new_cut {i : Nat} (hi : i < 8) : M.laneCut (List.replicate 32 (0 : Int)) i = [0, 0, 0, 0] := by
  have : i = 0 ∨ i = 1 ∨ i = 2 ∨ i = 3 ∨ i = 4 ∨ i = 5 ∨ i = 6 ∨ i = 7 := by omega
  rcases this with rfl | rfl | rfl | rfl | rfl | rfl | rfl | rfl <;> rfl
theorem new_inv {p : List D.Ins} {w : Int} (hw : 0 ≤ w ∧ w ≤ 2) {st : Nat → Nat} {R : Nat → List Int} (h : ∀ i : Nat, i < 8 → Alone p (st i) (M.laneNew (w * 8 + (i : Int))) (R i)) : LInv p (M.newWarp p w) st R := by
  have hF : (M.newWarp p w).Frames = if p.length > 0 then [⟨0, p.length, 255⟩] else [] := rfl
  have hR : (M.newWarp p w).Regs = List.replicate 32 0 := rfl
  have hN : (M.newWarp p w).Number = w := rfl
  refine ⟨?_, ?_, fun i hi => ?_⟩
  · rw [hF]
    split
    · exact .inr (.base rfl rfl)
    · exact .inl rfl
  · rw [hF]
    intro f hf
    split at hf
    · obtain rfl := List.mem_singleton.1 hf
      exact PD.last _
    · cases hf
  · have := h i hi
    have hl0 : M.laneNew (w * 8 + (i : Int)) = ⟨w * 8 + (i : Int), 0, [0, 0, 0, 0]⟩ := by
      unfold M.laneNew
      rw [if_pos (by simp only [M.isIn, Bool.and_eq_true, decide_eq_true_eq]; omega)]
    rw [hl0] at this
    rw [hN, hR, hF, new_cut hi]
    split
    · show Alone p _ ⟨_, (if M.hasLane 255 (i : Int) = true then 0 else _), _⟩ _
      rw [if_pos (mask_full hi)]; exact this
    · rename_i e
      show Alone p _ ⟨_, ((p.length : Nat) : Int), _⟩ _
      rw [show ((p.length : Nat) : Int) = 0 by omega]; exact this
structure Ends8 (p : List D.Ins) (w : Int) (st : Nat → Nat) (R : Nat → List Int) : Prop where
  quiet : M.isQuiet p = true
  num : 0 ≤ w ∧ w ≤ 2
  each : ∀ i : Nat, i < 8 → st i ≤ 1000 ∧ Alone p (st i) (M.laneNew (w * 8 + (i : Int))) (R i)
theorem new_ok_lane {p : List D.Ins} (hq : M.isQuiet p = true) {t : Int} (ht : 0 ≤ t ∧ t ≤ 23) : M.laneOk p (M.laneNew t) = true := by
  have hl0 : M.laneNew t = ⟨t, 0, [0, 0, 0, 0]⟩ := by
    unfold M.laneNew
    rw [if_pos (by simp only [M.isIn, Bool.and_eq_true, decide_eq_true_eq]; omega)]
  rw [hl0]
  unfold M.laneOk M.laneOf M.areRegs
  rw [quiet_prog hq]
  simp only [M.isIn, Bool.and_eq_true, decide_eq_true_eq]
  exact ⟨trivial, ht, ⟨by omega, by omega⟩, rfl, rfl⟩
theorem alone_steps {p : List D.Ins} (hq : M.isQuiet p = true) {t : Int} (ht : 0 ≤ t ∧ t ≤ 23) {k : Nat} {R : List Int} (hk : k ≤ 1000) (h : Alone p k (M.laneNew t) R) :
    M.stepsAlone p t = (k : Int) ∧ (M.runAlone p t).2 = true ∧ (M.runAlone p t).1.Regs = R := by
  have hok := new_ok_lane hq ht
  have e : M.runLane p (M.laneNew t) 1000 = M.runN p 1000 (M.laneNew t) 0 := by
    unfold M.runLane
    rw [if_pos (by rw [hq, hok]; rfl)]; rfl
  obtain ⟨g1, g2, g3⟩ := alone_run k 1000 _ 0 R h hk
  unfold M.stepsAlone M.runAlone
  rw [e, g1, g2, if_neg (by omega), if_neg (by omega), if_neg (by omega), if_neg (by omega)]
  exact ⟨by omega, rfl, g3⟩
theorem Ends8.lane {p : List D.Ins} {w : Int} {st : Nat → Nat} {R : Nat → List Int} (h : Ends8 p w st R) {i : Nat} (hi : i < 8) : M.stepsAlone p (w * 8 + (i : Int)) = (st i : Int) ∧ (M.runAlone p (w * 8 + (i : Int))).2 = true ∧ (M.runAlone p (w * 8 + (i : Int))).1.Regs = R i :=
  alone_steps h.quiet (by have := h.num; omega) (h.each i hi).1 (h.each i hi).2
theorem Ends8.fine {p : List D.Ins} {w : Int} {st : Nat → Nat} {R : Nat → List Int} (h : Ends8 p w st R) : M.Fine p (M.newWarp p w) :=
  newWarp_fine (quiet_prog h.quiet) (by have := h.num; simp only [M.isIn, Bool.and_eq_true, decide_eq_true_eq]; exact this)
theorem Ends8.inv {p : List D.Ins} {w : Int} {st : Nat → Nat} {R : Nat → List Int} (h : Ends8 p w st R) : LInv p (M.newWarp p w) st R := new_inv h.num fun i hi => (h.each i hi).2
theorem sumTo_le {st : Nat → Nat} : ∀ k : Nat, (∀ i, i < k → st i ≤ 1000) → sumTo st k ≤ 1000 * k
  | 0, _ => by simp [sumTo]
  | k + 1, h => by
    have := sumTo_le k fun i hi => h i (by omega)
    have := h k (by omega)
    rw [sumTo]; omega
theorem Ends8.result {p : List D.Ins} {w : Int} {st : Nat → Nat} {R : Nat → List Int} (h : Ends8 p w st R) : ∃ m : Nat, (m : Int) ≤ ((sumTo st 8 : Nat) : Int) ∧ (∀ i : Nat, i < 8 → st i ≤ m) ∧
    M.warpResult p w = (M.wAt p (M.newWarp p w) m, (m : Int), true) ∧ (M.wAt p (M.newWarp p w) m).Frames = [] ∧ (∀ k, k < m → (M.wAt p (M.newWarp p w) k).Frames ≠ []) ∧
    (M.wAt p (M.newWarp p w) m).Regs = M.endList p (w * 8) 8 ∧ csum p (M.newWarp p w) m = ((sumTo st 8 : Nat) : Int) := by
  obtain ⟨m, h1, h2, h3⟩ := run_ends h.inv h.quiet h.fine
  obtain ⟨rem', g1, g2, g3, g4, g5, g6⟩ := trace h.inv h.quiet h.fine m h3
  have hend : ∀ i : Nat, i < 8 → rem' i = 0 ∧ M.laneCut (M.wAt p (M.newWarp p w) m).Regs i = R i := fun i hi => by
    have := g1.lane i hi
    rw [h2] at this
    exact this.at_end rfl
  have hz : sumTo rem' 8 = 0 := by
    have : ∀ k, k ≤ 8 → sumTo rem' k = 0 := by
      intro k hk
      induction k with
      | zero => rfl
      | succ k ih => rw [sumTo, ih (by omega), (hend k (by omega)).1]
    exact this 8 (Nat.le_refl _)
  have hs := sumTo_le 8 fun i hi => (h.each i hi).1
  have hlen : (M.wAt p (M.newWarp p w) m).Regs.length = 32 := (fine_small g2).2
  refine ⟨m, h1, fun i hi => ?_, ?_, h2, h3, ?_, by rw [hz] at g4; omega⟩
  · have := g3 i hi
    have := (hend i hi).1
    omega
  · have hrun : M.runW p 8000 (M.newWarp p w) 0 = (M.wAt p (M.newWarp p w) m, 0 + (m : Int)) := runW_to m 8000 _ 0 (by omega) g6 (by simp [M.spec_l13Local, h2])
    unfold M.warpResult
    rw [hrun, if_pos (by rw [h.quiet]; have := h.num; simp only [M.isIn, Bool.true_and, Bool.and_eq_true, decide_eq_true_eq]; exact this), if_pos (by rw [h2]; rfl)]
    simp
  · have e1 : (M.wAt p (M.newWarp p w) m).Regs = (List.range 8).flatMap (M.laneCut (M.wAt p (M.newWarp p w) m).Regs) := by
      rw [cuts_all, List.take_of_length_le (by omega)]
    rw [e1]
    unfold M.endList
    refine flat_same _ fun i hi => ?_
    have hi := List.mem_range.1 hi
    rw [(hend i hi).2, (h.lane hi).2.2]
end Go.V
set_option linter.unusedVariables false
set_option linter.unusedSimpArgs false
set_option maxRecDepth 20000
namespace Go.V
theorem Ends8.stepsList {p : List D.Ins} {w : Int} {st : Nat → Nat} {R : Nat → List Int} (h : Ends8 p w st R) : M.stepsList p w = (List.range 8).map fun i : Nat => (st i : Int) := by
  unfold M.stepsList
  apply List.map_congr_left
  intro i hi
  exact (h.lane (List.mem_range.1 hi)).1
theorem Ends8.stepsOf {p : List D.Ins} {w : Int} {st : Nat → Nat} {R : Nat → List Int} (h : Ends8 p w st R) : M.stepsOf p w = ((List.range 8).map fun i : Nat => (st i : Int), true) := by
  have hw : M.isIn w 0 2 = true := by have := h.num; simp only [M.isIn, Bool.and_eq_true, decide_eq_true_eq]; exact this
  unfold M.stepsOf
  rw [h.stepsList, hw, if_pos]
  rw [Bool.true_and, List.all_eq_true]
  intro x hx
  obtain ⟨i, _, rfl⟩ := List.mem_map.1 hx
  simp
theorem most_le {b : Int} : ∀ (l : List Int) (m : Int), m ≤ b → (∀ x ∈ l, x ≤ b) → M.most l m ≤ b
  | [], m, hm, _ => hm
  | x :: l, m, hm, h => by
    show M.most l (if x > m then x else m) ≤ b
    refine most_le l _ ?_ fun y hy => h y (List.mem_cons_of_mem _ hy)
    split
    · exact h x List.mem_cons_self
    · exact hm
theorem Ends8.most {p : List D.Ins} {w : Int} {st : Nat → Nat} {R : Nat → List Int} (h : Ends8 p w st R) {m : Nat} (hm : ∀ i : Nat, i < 8 → st i ≤ m) : M.mostAlone p w ≤ (m : Int) := by
  unfold M.mostAlone
  rw [h.stepsOf, if_pos rfl]
  refine most_le _ _ (by omega) fun x hx => ?_
  obtain ⟨i, hi, rfl⟩ := List.mem_map.1 hx
  have := hm i (List.mem_range.1 hi)
  omega
theorem Ends8.endRegs {p : List D.Ins} {w : Int} {st : Nat → Nat} {R : Nat → List Int} (h : Ends8 p w st R) : M.endRegs p (w * 8) 8 = (M.endList p (w * 8) 8, true) := by
  unfold M.endRegs
  rw [if_pos]
  · rfl
  · rw [Bool.and_eq_true, Bool.and_eq_true]
    refine ⟨rfl, by have := h.num; simp only [M.isIn, Bool.and_eq_true, decide_eq_true_eq]; omega, ?_⟩
    unfold M.endOk
    rw [List.all_eq_true]
    intro i hi
    exact (h.lane (List.mem_range.1 hi)).2.1
end Go.V
set_option linter.unusedVariables false
set_option linter.unusedVariables false
set_option linter.unusedSimpArgs false
set_option maxRecDepth 20000
namespace Go.V
theorem place_in {b : List Int} (h : M.Long b) {k n : Int} (h0 : 0 ≤ k) (hk : k < 12) (hn : 0 < n) : 0 ≤ Int.tmod (rd (M.spec_DrawPlaces b) k) n ∧ Int.tmod (rd (M.spec_DrawPlaces b) k) n < n := by
  have hpl : (M.spec_DrawPlaces b).length = 12 := places_len 12 _
  have := places_good 12 (M.spec_l01New b) _ (rd_of (xs := M.spec_DrawPlaces b) (i := k) h0 (by omega))
  exact tmod_in this.1 hn
end Go.V
set_option linter.unusedVariables false
namespace Go.V
def wp.spec_l04Memory (s0 : D.Cur) (Q : (D.Ins × D.Cur) → Prop) : Prop :=
  (M.spec_l01PickInt_pre s0 ([13, 14, 15] : List Int) ∧ ∀ r26, r26 = M.spec_l01PickInt s0 ([13, 14, 15] : List Int) → (M.spec_l01Below_pre (⟨s0.b, r26.2.i, r26.2.h⟩ : D.Cur) 4 ∧ ∀ r32, r32 = M.spec_l01Below (⟨s0.b, r26.2.i, r26.2.h⟩ : D.Cur) 4 → (M.spec_l01Below_pre (⟨s0.b, r32.2.i, r32.2.h⟩ : D.Cur) 4 ∧ ∀ r38, r38 = M.spec_l01Below (⟨s0.b, r32.2.i, r32.2.h⟩ : D.Cur) 4 → Q ((⟨r26.1, r32.1, r38.1, 0⟩ : D.Ins), (⟨s0.b, r38.2.i, r38.2.h⟩ : D.Cur)))))
def wp.spec_l29Program (s0 : D.Cur) (Q : ((List D.Ins) × D.Cur) → Prop) : Prop :=
  (M.spec_l01Below_pre s0 5 ∧ ∀ r24, r24 = M.spec_l01Below s0 5 → LoopP (σ := (List D.Ins) × Int × Int × Int × Unit) (fun (p198 : (List D.Ins) × Int × Int × Int × Unit) next62 => match p198 with | (xs53, i56, i57, i58, _) => bcase (decide (i56 > 0)) (bcase (decide ((IntKind.wrap .i64 (((xs53.length : Nat) : Int) + 4)) ≤ 32)) ((M.spec_l01Below_pre (⟨s0.b, i57, i58⟩ : D.Cur) 7 ∧ ∀ r64, r64 = M.spec_l01Below (⟨s0.b, i57, i58⟩ : D.Cur) 7 → bcase (r64.1 == 0) (((xs53.length + ([(⟨16, 0, 0, 0⟩ : D.Ins)] : List D.Ins).length ≤ 17179869184) ∧ next62 ((xs53 ++ ([(⟨16, 0, 0, 0⟩ : D.Ins)] : List D.Ins)), (IntKind.wrap .i64 (i56 - 1)), r64.2.i, r64.2.h, ()))) (bcase (r64.1 == 1) ((M.spec_l01Below_pre (⟨s0.b, r64.2.i, r64.2.h⟩ : D.Cur) 4 ∧ ∀ r81, r81 = M.spec_l01Below (⟨s0.b, r64.2.i, r64.2.h⟩ : D.Cur) 4 → ((xs53.length + ([(⟨8, 0, 0, 0⟩ : D.Ins), (⟨14, 0, r81.1, 0⟩ : D.Ins)] : List D.Ins).length ≤ 17179869184) ∧ next62 ((xs53 ++ ([(⟨8, 0, 0, 0⟩ : D.Ins), (⟨14, 0, r81.1, 0⟩ : D.Ins)] : List D.Ins)), (IntKind.wrap .i64 (i56 - 1)), r81.2.i, r81.2.h, ())))) (bcase (r64.1 == 2) ((M.spec_l01PickInt_pre (⟨s0.b, r64.2.i, r64.2.h⟩ : D.Cur) ([1, 8, 31] : List Int) ∧ ∀ r101, r101 = M.spec_l01PickInt (⟨s0.b, r64.2.i, r64.2.h⟩ : D.Cur) ([1, 8, 31] : List Int) → ((xs53.length + ([(⟨1, 1, r101.1, 0⟩ : D.Ins), (⟨8, 0, 0, 0⟩ : D.Ins), (⟨3, 0, 0, 1⟩ : D.Ins), (⟨13, 2, 0, 0⟩ : D.Ins)] : List D.Ins).length ≤ 17179869184) ∧ next62 ((xs53 ++ ([(⟨1, 1, r101.1, 0⟩ : D.Ins), (⟨8, 0, 0, 0⟩ : D.Ins), (⟨3, 0, 0, 1⟩ : D.Ins), (⟨13, 2, 0, 0⟩ : D.Ins)] : List D.Ins)), (IntKind.wrap .i64 (i56 - 1)), r101.2.i, r101.2.h, ())))) (bcase (r64.1 == 3) ((M.spec_l01Below_pre (⟨s0.b, r64.2.i, r64.2.h⟩ : D.Cur) 8 ∧ ∀ r118, r118 = M.spec_l01Below (⟨s0.b, r64.2.i, r64.2.h⟩ : D.Cur) 8 → (M.spec_l01Below_pre (⟨s0.b, r118.2.i, r118.2.h⟩ : D.Cur) 4 ∧ ∀ r124, r124 = M.spec_l01Below (⟨s0.b, r118.2.i, r118.2.h⟩ : D.Cur) 4 → ((xs53.length + ([(⟨1, 1, (IntKind.wrap .i64 (24 + r118.1)), 0⟩ : D.Ins), (⟨15, 1, r124.1, 0⟩ : D.Ins)] : List D.Ins).length ≤ 17179869184) ∧ next62 ((xs53 ++ ([(⟨1, 1, (IntKind.wrap .i64 (24 + r118.1)), 0⟩ : D.Ins), (⟨15, 1, r124.1, 0⟩ : D.Ins)] : List D.Ins)), (IntKind.wrap .i64 (i56 - 1)), r124.2.i, r124.2.h, ()))))) (bcase (r64.1 == 4) (bcase (decide (((xs53.length : Nat) : Int) < 12)) ((M.spec_l05Body_pre (⟨s0.b, r64.2.i, r64.2.h⟩ : D.Cur) xs53 1 ∧ ∀ r141, r141 = M.spec_l05Body (⟨s0.b, r64.2.i, r64.2.h⟩ : D.Cur) xs53 1 → next62 (r141.1, (IntKind.wrap .i64 (i56 - 1)), r141.2.i, r141.2.h, ()))) (next62 (xs53, (IntKind.wrap .i64 (i56 - 1)), r64.2.i, r64.2.h, ()))) (bcase (r64.1 == 5) ((M.spec_l04Memory_pre (⟨s0.b, r64.2.i, r64.2.h⟩ : D.Cur) ∧ ∀ r156, r156 = M.spec_l04Memory (⟨s0.b, r64.2.i, r64.2.h⟩ : D.Cur) → ((xs53.length + ([r156.1] : List D.Ins).length ≤ 17179869184) ∧ next62 ((xs53 ++ ([r156.1] : List D.Ins)), (IntKind.wrap .i64 (i56 - 1)), r156.2.i, r156.2.h, ())))) ((M.spec_l04Plain_pre (⟨s0.b, r64.2.i, r64.2.h⟩ : D.Cur) ∧ ∀ r173, r173 = M.spec_l04Plain (⟨s0.b, r64.2.i, r64.2.h⟩ : D.Cur) → ((xs53.length + ([r173.1] : List D.Ins).length ≤ 17179869184) ∧ next62 ((xs53 ++ ([r173.1] : List D.Ins)), (IntKind.wrap .i64 (i56 - 1)), r173.2.i, r173.2.h, ()))))))))))) (Q (xs53, (⟨s0.b, i57, i58⟩ : D.Cur)))) (Q (xs53, (⟨s0.b, i57, i58⟩ : D.Cur)))) (([(⟨8, 0, 0, 0⟩ : D.Ins)] : List D.Ins), (IntKind.wrap .i64 (1 + r24.1)), r24.2.i, r24.2.h, ()))
def wp.spec_DrawProgram (xs0 : List Int) (Q : (List D.Ins) → Prop) : Prop :=
  (M.spec_l01New_pre xs0 ∧ ∀ r21, r21 = M.spec_l01New xs0 → (M.spec_l29Program_pre (⟨xs0, r21.i, r21.h⟩ : D.Cur) ∧ ∀ r27, r27 = M.spec_l29Program (⟨xs0, r21.i, r21.h⟩ : D.Cur) → Q r27.1))
def wp.laws_FnNewBlocks (xs0 : List Int) (Q : Bool → Prop) : Prop :=
  (∀ r21, r21 = M.laws_big xs0 → bcase r21 (Q true) ((M.spec_DrawProgram_pre xs0 ∧ ∀ r26, r26 = M.spec_DrawProgram xs0 → (M.spec_DrawPlaces_pre xs0 ∧ ∀ r33, r33 = M.spec_DrawPlaces xs0 → ((0 ≤ (0 : Int) ∧ (0 : Int) < ((r33.length : Nat) : Int)) ∧ (M.impl_BlockNew_pre r26 (IntKind.wrap .i64 (1 + (Int.tmod (rd r33 0) 3))) ∧ ∀ r46, r46 = M.impl_BlockNew r26 (IntKind.wrap .i64 (1 + (Int.tmod (rd r33 0) 3))) → LoopP (σ := (List Int) × Int × Unit) (fun (p147 : (List Int) × Int × Unit) next72 => match p147 with | (xs65, i68, _) => bcase (decide (i68 < 32)) (((0 ≤ (Int.tmod i68 12) ∧ (Int.tmod i68 12) < ((r33.length : Nat) : Int)) ∧ ((xs65.length + ([(rd r33 (Int.tmod i68 12))] : List Int).length ≤ 17179869184) ∧ next72 ((xs65 ++ ([(rd r33 (Int.tmod i68 12))] : List Int)), (IntKind.wrap .i64 (i68 + 1)), ())))) ((M.impl_WithMemory_pre r46.1 xs65 ∧ ∀ r91, r91 = M.impl_WithMemory r46.1 xs65 → bcase r46.2 (bcase r91.2 ((M.impl_BlockOk_pre r46.1 ∧ ∀ r113, r113 = M.impl_BlockOk r46.1 → bcase r113 ((M.impl_BlockOk_pre r91.1 ∧ ∀ r118, r118 = M.impl_BlockOk r91.1 → bcase r118 (((0 ≤ (0 : Int) ∧ (0 : Int) < ((r33.length : Nat) : Int)) ∧ bcase (((r46.1.Warps.length : Nat) : Int) == (IntKind.wrap .i64 (1 + (Int.tmod (rd r33 0) 3)))) (bcase (r46.1.Phase == 0) ((M.laws_sameInts_pre r91.1.Memory xs65 ∧ ∀ r129, r129 = M.laws_sameInts r91.1.Memory xs65 → bcase r129 ((M.impl_SameBlock_pre r46.1 (⟨([] : List D.Ins), ([] : List D.Warp), ([] : List Int), 0, 0⟩ : D.Block) ∧ ∀ r134, r134 = M.impl_SameBlock r46.1 (⟨([] : List D.Ins), ([] : List D.Warp), ([] : List Int), 0, 0⟩ : D.Block) → Q (!r134))) (Q false))) (Q false)) (Q false))) (Q false))) (Q false))) (Q false)) (Q false)))) (([] : List Int), 0, ())))))))
end Go.V
set_option linter.unusedVariables false
set_option linter.unusedSimpArgs false
set_option maxRecDepth 20000
namespace Go.V
theorem wp.spec_l04Memory.math (c : D.Cur) (h : M.spec_l04Memory_pre c) : wp.spec_l04Memory c (fun r => r = M.spec_l04Memory c) := by
  have h : M.CurOk c := h
  refine ⟨⟨h, by simp, by simp⟩, fun r hr => ?_⟩
  subst hr
  have c1 := pick_ok h [13, 14, 15]
  have b1 := pick_b c [13, 14, 15]
  rw [cur_eta b1]
  refine ⟨c1, fun r hr => ?_⟩
  subst hr
  have b2 := (below_b (M.spec_l01PickInt c [13, 14, 15]).2 4).trans b1
  rw [cur_eta b2]
  refine ⟨below_ok c1 4, fun r hr => ?_⟩
  subst hr
  rw [cur_eta ((below_b _ 4).trans b2)]; rfl
def itP : Nat → D.Cur → List D.Ins → List D.Ins × D.Cur
  | 0, c, p => (p, c)
  | k + 1, c, p => M.progOne (itP k c p).2 (itP k c p).1
theorem wp.spec_l29Program.math (c : D.Cur) (h : M.spec_l29Program_pre c) : wp.spec_l29Program c (fun r => r = M.spec_l29Program c) := by
  have h : M.CurOk c := h
  unfold wp.spec_l29Program
  refine ⟨h, fun r0 g0 => ?_⟩
  subst g0
  have hb := below_in c (n := 5) (by omega)
  have hc0 := below_ok h 5
  have hb0 := below_b c 5
  rw [w64 (x := 1 + (M.spec_l01Below c 5).1) (by omega) (by omega)]
  show LoopP _ _
  have eM : M.spec_l29Program c = M.progN (1 + (M.spec_l01Below c 5).1).toNat (M.spec_l01Below c 5).2 [⟨8, 0, 0, 0⟩] := rfl
  rw [eM]
  obtain ⟨n, hn⟩ := Int.eq_ofNat_of_zero_le (show 0 ≤ 1 + (M.spec_l01Below c 5).1 by omega)
  have hnb : n ≤ 5 := by omega
  generalize (M.spec_l01Below c 5).2 = c0 at *
  rw [hn, Int.toNat_natCast]
  refine loop_n n (fun k => ((itP k c0 [⟨8, 0, 0, 0⟩]).1, ((n : Int) - (k : Int)), (itP k c0 [⟨8, 0, 0, 0⟩]).2.i, (itP k c0 [⟨8, 0, 0, 0⟩]).2.h, ()))
    (fun k => M.CurOk (itP k c0 [⟨8, 0, 0, 0⟩]).2 ∧ (itP k c0 [⟨8, 0, 0, 0⟩]).2.b = c.b ∧ (itP k c0 [⟨8, 0, 0, 0⟩]).1.length ≤ 32 ∧ (k ≤ n → M.progN n c0 [⟨8, 0, 0, 0⟩] = M.progN (n - k) (itP k c0 [⟨8, 0, 0, 0⟩]).2 (itP k c0 [⟨8, 0, 0, 0⟩]).1))
    (by simp [itP]) ⟨hc0, hb0, by simp [itP], fun _ => rfl⟩ (fun k hk hF next hnx => ?_) fun hF next => ?_
  · obtain ⟨f1, f2, fl, f3⟩ := hF
    have f3 := f3 (by omega)
    have it : itP (k + 1) c0 [⟨8, 0, 0, 0⟩] = M.progOne (itP k c0 [⟨8, 0, 0, 0⟩]).2 (itP k c0 [⟨8, 0, 0, 0⟩]).1 := rfl
    rw [it] at hnx
    generalize itP k c0 [⟨8, 0, 0, 0⟩] = y at *
    obtain ⟨q, e⟩ := y
    dsimp only at *
    rw [w64 (x := ((q.length : Nat) : Int) + 4) (by omega) (by omega)]
    refine bcase_t (by simp; omega) (bcase_mk (fun g => ?_) fun g => ?_)
    · have g : ((q.length : Nat) : Int) + 4 ≤ 32 := by simpa using g
      obtain ⟨k1, k2, s, k3, k4, k5⟩ := progOne_grows f1 (p := q) (by omega)
      have ew : IntKind.wrap .i64 ((n : Int) - (k : Int) - 1) = (n : Int) - ((k + 1 : Nat) : Int) := by rw [w64 (by omega) (by omega)]; omega
      have fin : ∀ P c', M.progOne e q = (P, c') → next (P, IntKind.wrap .i64 ((n : Int) - (k : Int) - 1), c'.i, c'.h, ()) := fun P c' hE => by
        rw [ew]
        have := hnx ⟨k1, k2.trans f2, by rw [k3, List.length_append]; exact k5, fun _ => ?_⟩
        · rw [hE] at this; exact this
        · rw [f3, show n - k = (n - (k + 1)) + 1 by omega, M.progN, if_pos g]
      rw [cur_eta f2]
      refine ⟨f1, fun r5 g5 => ?_⟩
      subst g5
      have c5 := below_ok f1 7
      have b5 : (M.spec_l01Below e 7).2.b = c.b := (below_b e 7).trans f2
      simp only [cur_eta b5]
      have hb5 := below_in e (n := 7) (by omega)
      have fin2 := fin
      unfold M.progOne at fin2
      generalize (M.spec_l01Below e 7).1 = d at *
      generalize (M.spec_l01Below e 7).2 = e5 at *
      refine bcase_mk (fun d0 => ?_) fun d0 => bcase_mk (fun d1 => ?_) fun d1 => bcase_mk (fun d2 => ?_) fun d2 => bcase_mk (fun d3 => ?_) fun d3 => bcase_mk (fun d4 => ?_) fun d4 => bcase_mk (fun d5 => ?_) fun d5 => ?_
      · have d0 : d = 0 := by simpa using d0
        exact ⟨by simp; omega, fin2 _ _ (by rw [if_pos d0])⟩
      · have d0 : ¬ d = 0 := by simpa using d0
        have d1 : d = 1 := by simpa using d1
        refine ⟨c5, fun r hr => ?_⟩
        subst hr
        exact ⟨by simp; omega, fin2 _ _ (by rw [if_neg d0, if_pos d1]; rfl)⟩
      · have d0 : ¬ d = 0 := by simpa using d0
        have d1 : ¬ d = 1 := by simpa using d1
        have d2 : d = 2 := by simpa using d2
        refine ⟨⟨c5, by simp, by simp⟩, fun r hr => ?_⟩
        subst hr
        exact ⟨by simp; omega, fin2 _ _ (by rw [if_neg d0, if_neg d1, if_pos d2]; rfl)⟩
      · have d0 : ¬ d = 0 := by simpa using d0
        have d1 : ¬ d = 1 := by simpa using d1
        have d2 : ¬ d = 2 := by simpa using d2
        have d3 : d = 3 := by simpa using d3
        refine ⟨c5, fun r hr => ?_⟩
        subst hr
        have h8 := below_in e5 (n := 8) (by omega)
        rw [cur_eta ((below_b e5 8).trans b5), w64 (x := 24 + (M.spec_l01Below e5 8).1) (by omega) (by omega)]
        refine ⟨below_ok c5 8, fun r hr => ?_⟩
        subst hr
        exact ⟨by simp; omega, fin2 _ _ (by rw [if_neg d0, if_neg d1, if_neg d2, if_pos d3]; rfl)⟩
      · have d0 : ¬ d = 0 := by simpa using d0
        have d1 : ¬ d = 1 := by simpa using d1
        have d2 : ¬ d = 2 := by simpa using d2
        have d3 : ¬ d = 3 := by simpa using d3
        have d4 : d = 4 := by simpa using d4
        rw [if_neg d0, if_neg d1, if_neg d2, if_neg d3, if_pos d4] at fin2
        refine bcase_mk (fun l12 => ⟨⟨c5, by simp at l12; omega, by omega, by omega⟩, fun r hr => ?_⟩) fun l12 => ?_
        · have l12 : ((q.length : Nat) : Int) < 12 := by simpa using l12
          rw [if_pos l12] at fin2
          exact fin2 _ _ (by rw [hr]; rfl)
        · have l12 : ¬ ((q.length : Nat) : Int) < 12 := by simpa using l12
          rw [if_neg l12] at fin2
          exact fin2 _ _ rfl
      · have d0 : ¬ d = 0 := by simpa using d0
        have d1 : ¬ d = 1 := by simpa using d1
        have d2 : ¬ d = 2 := by simpa using d2
        have d3 : ¬ d = 3 := by simpa using d3
        have d4 : ¬ d = 4 := by simpa using d4
        have d5 : d = 5 := by simpa using d5
        refine ⟨c5, fun r hr => ?_⟩
        subst hr
        exact ⟨by simp; omega, fin2 _ _ (by rw [if_neg d0, if_neg d1, if_neg d2, if_neg d3, if_neg d4, if_pos d5])⟩
      · have d0 : ¬ d = 0 := by simpa using d0
        have d1 : ¬ d = 1 := by simpa using d1
        have d2 : ¬ d = 2 := by simpa using d2
        have d3 : ¬ d = 3 := by simpa using d3
        have d4 : ¬ d = 4 := by simpa using d4
        have d5 : ¬ d = 5 := by simpa using d5
        refine ⟨c5, fun r hr => ?_⟩
        subst hr
        exact ⟨by simp; omega, fin2 _ _ (by rw [if_neg d0, if_neg d1, if_neg d2, if_neg d3, if_neg d4, if_neg d5])⟩
    · have g : ¬ ((q.length : Nat) : Int) + 4 ≤ 32 := by simpa using g
      rw [f3, show n - k = (n - (k + 1)) + 1 by omega, M.progN, if_neg g, cur_eta f2]
  · obtain ⟨f1, f2, fl, f3⟩ := hF
    refine bcase_f (by simp) ?_
    rw [f3 (Nat.le_refl _), Nat.sub_self, cur_eta f2]; rfl
theorem wp.spec_DrawProgram.math (b : List Int) (h : M.spec_DrawProgram_pre b) : wp.spec_DrawProgram b (fun r => r = M.spec_DrawProgram b) := by
  have hn := new_ok h
  refine ⟨h, fun r hr => ?_⟩
  have e : (⟨b, r.i, r.h⟩ : D.Cur) = M.spec_l01New b := by subst hr; rfl
  rw [e]
  refine ⟨hn, fun r2 hr2 => ?_⟩
  subst hr2; rfl
theorem newBlock_ok {p : List D.Ins} (hp : M.programOk p = true) {c : Int} (hc : 1 ≤ c ∧ c ≤ 3) : M.blockOk (M.newBlock p c) = true ∧ (((M.newBlock p c).Warps.length : Nat) : Int) = c := by
  have hlen : (((M.newBlock p c).Warps.length : Nat) : Int) = c := by simp [M.newBlock]; omega
  have hz : M.impl_isMemory (List.replicate 32 0) = true := by rfl
  have hat : ∀ k : Nat, k ≤ 2 → M.warpAt p k (M.newWarp p (k : Int)) = true := fun k hk => by
    unfold M.warpAt
    rw [(newWarp_fine hp (w := (k : Int)) (by simp only [M.isIn, Bool.and_eq_true, decide_eq_true_eq]; omega)).2]
    simp [M.newWarp]
  have h0 := hat 0 (by omega)
  have h1 := hat 1 (by omega)
  have h2 := hat 2 (by omega)
  refine ⟨?_, hlen⟩
  have : c = 1 ∨ c = 2 ∨ c = 3 := by omega
  unfold M.blockOk
  have e1 : (M.newBlock p c).Code = p := rfl
  have e2 : (M.newBlock p c).Memory = List.replicate 32 0 := rfl
  have e3 : (M.newBlock p c).Waiting = 0 := rfl
  have e4 : (M.newBlock p c).Phase = 0 := rfl
  rw [e1, e2, e3, e4, hp, hz]
  rcases this with rfl | rfl | rfl
  · have e5 : (M.newBlock p 1).Warps = [M.newWarp p ((0 : Nat) : Int)] := rfl
    rw [e5]
    have : M.warpsOk p 0 [M.newWarp p ((0 : Nat) : Int)] = true := by simp only [M.warpsOk, h0]; rfl
    rw [this]; rfl
  · have e5 : (M.newBlock p 2).Warps = [M.newWarp p ((0 : Nat) : Int), M.newWarp p ((1 : Nat) : Int)] := rfl
    rw [e5]
    have : M.warpsOk p 0 [M.newWarp p ((0 : Nat) : Int), M.newWarp p ((1 : Nat) : Int)] = true := by simp only [M.warpsOk, h0, h1, Nat.zero_add]; rfl
    rw [this]; rfl
  · have e5 : (M.newBlock p 3).Warps = [M.newWarp p ((0 : Nat) : Int), M.newWarp p ((1 : Nat) : Int), M.newWarp p ((2 : Nat) : Int)] := rfl
    rw [e5]
    have : M.warpsOk p 0 [M.newWarp p ((0 : Nat) : Int), M.newWarp p ((1 : Nat) : Int), M.newWarp p ((2 : Nat) : Int)] = true := by simp only [M.warpsOk, h0, h1, h2, Nat.zero_add]; rfl
    rw [this]; rfl
theorem newBlock_fit {p : List D.Ins} (hp : p.length ≤ 32) {c : Int} (hc : 1 ≤ c ∧ c ≤ 3) : M.BFit (M.newBlock p c) ∧ M.BLong (M.newBlock p c) := by
  have hw : ∀ x ∈ (M.newBlock p c).Warps, M.WFit x := fun x hx => by
    obtain ⟨k, _, rfl⟩ := List.mem_map.1 hx
    exact newWarp_fit p _
  have hl : (M.newBlock p c).Warps.length ≤ 3 := by simp [M.newBlock]; omega
  refine ⟨⟨by show p.length ≤ _; omega, ⟨by omega, hw⟩, by show (List.replicate 32 (0 : Int)).length ≤ _; simp⟩, by show p.length ≤ _; omega, ⟨by show (M.newBlock p c).Warps.length ≤ _; omega, fun x hx => ?_⟩, by show (List.replicate 32 (0 : Int)).length ≤ _; simp⟩
  have := hw x hx
  unfold M.WFit at this
  unfold M.WLong M.Long
  omega
theorem wp.laws_FnNewBlocks.math (b : List Int) (h : M.laws_FnNewBlocks_pre b) : wp.laws_FnNewBlocks b (fun r => r = M.laws_FnNewBlocks b) := by
  intro r0 _
  refine bcase_mk (fun _ => rfl) fun _ => ⟨h, fun r1 g1 => ⟨h, fun r2 g2 => ?_⟩⟩
  subst g1
  subst g2
  have hpl : (M.spec_DrawPlaces b).length = 12 := places_len 12 _
  have hpg : ∀ x ∈ M.spec_DrawPlaces b, 0 ≤ x ∧ x < 10000 := places_good 12 _
  have hw := place_in h (k := 0) (n := 3) (by omega) (by omega) (by omega)
  obtain ⟨_, _, _, hl, _⟩ := prog_draw (new_ok h)
  have hp : M.programOk (M.spec_DrawProgram b) = true := prog_good (new_ok h)
  have hl : (M.spec_DrawProgram b).length ≤ 32 := hl
  generalize hc : 1 + Int.tmod (rd (M.spec_DrawPlaces b) 0) 3 = c at *
  generalize M.spec_DrawProgram b = p at *
  generalize M.spec_DrawPlaces b = x at *
  have hc1 : 1 ≤ c ∧ c ≤ 3 := by omega
  have hlong : M.Long p := by unfold M.Long; omega
  rw [w64 (x := c) (by omega) (by omega)]
  refine ⟨⟨by omega, by omega⟩, hlong, fun r hr => ?_⟩
  have hr : r = (M.newBlock p c, true) := by
    rw [hr]
    show M.blockNew p c = _
    unfold M.blockNew
    rw [if_pos (by rw [hp]; simp only [M.isIn, Bool.true_and, Bool.and_eq_true, decide_eq_true_eq]; exact hc1)]
  subst hr
  obtain ⟨k1, k2⟩ := newBlock_ok hp hc1
  obtain ⟨k3, k4⟩ := newBlock_fit hl hc1
  have hmod : ∀ k : Nat, Int.tmod (k : Int) 12 = ((k % 12 : Nat) : Int) := fun k => by rw [Int.tmod_eq_emod_of_nonneg (by omega)]; rfl
  let f : Nat → Int := fun k => rd x ((k % 12 : Nat) : Int)
  have hf : ∀ k, 0 ≤ f k ∧ f k < 10000 := fun k => hpg _ (rd_of (by omega) (by omega))
  refine loop_n 32 (fun k => ((List.range k).map f, (k : Int), ())) (fun _ => True) rfl trivial (fun k hk _ next hn => ?_) fun _ next => ?_
  · have hn := hn trivial
    rw [List.range_succ, List.map_append] at hn
    refine bcase_t (by simp; omega) ⟨⟨by rw [hmod]; omega, by rw [hmod]; omega⟩, by simp; omega, ?_⟩
    rw [up64 (n := 32) hk (by omega), hmod]
    exact hn
  · refine bcase_f (by simp) ⟨⟨k3, by simp⟩, fun y hy => ?_⟩
    have hm : M.impl_isMemory ((List.range 32).map f) = true := by
      unfold M.impl_isMemory
      rw [Bool.and_eq_true, beq_iff_eq, List.all_eq_true]
      refine ⟨by simp, fun v hv => ?_⟩
      obtain ⟨k, _, rfl⟩ := List.mem_map.1 hv
      have := hf k
      simp only [M.isWord, M.isIn, Bool.and_eq_true, decide_eq_true_eq]; omega
    have hy : y = (⟨(M.newBlock p c).Code, (M.newBlock p c).Warps, (List.range 32).map f, (M.newBlock p c).Waiting, (M.newBlock p c).Phase⟩, true) := by
      rw [hy]
      show M.withMemory _ _ = _
      unfold M.withMemory
      rw [if_pos (by rw [k1, hm]; rfl)]
    subst hy
    have k5 : M.blockOk ⟨(M.newBlock p c).Code, (M.newBlock p c).Warps, (List.range 32).map f, (M.newBlock p c).Waiting, (M.newBlock p c).Phase⟩ = true := by
      have := k1
      unfold M.blockOk at this ⊢
      simp only [Bool.and_eq_true] at this ⊢
      exact ⟨this.1, this.2.1, hm, this.2.2.2⟩
    refine bcase_t rfl (bcase_t rfl ⟨k4, fun r hr => bcase_t (hr.trans k1) ⟨⟨k4.1, k4.2.1, by show ((List.range 32).map f).length ≤ _; simp⟩, fun r hr => bcase_t (hr.trans k5) ⟨⟨by omega, by omega⟩, bcase_t (by rw [k2]; simp) (bcase_t rfl ⟨by show ((List.range 32).map f).length ≤ _; simp, fun r hr => bcase_t ?_ ⟨k4, fun r hr => ?_⟩⟩)⟩⟩⟩)
    · rw [hr]; simp [M.laws_sameInts]
    · show (!r) = true
      rw [hr]
      have : M.impl_SameBlock (M.newBlock p c) ⟨[], [], [], 0, 0⟩ = false := by
        unfold M.impl_SameBlock
        rw [beq_eq_false_iff_ne]
        intro e
        have : (M.newBlock p c).Memory = [] := by rw [e]
        have : (List.replicate 32 (0 : Int)) = [] := this
        cases this
      rw [this]; rfl
end Go.V
