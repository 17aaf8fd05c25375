/- Plain: a request's bytes. No program. -/
import Derived.Test.YtidhemjnchonaaaGreatDoorFind
namespace Go.Proofs.YtidhemjnchonaaaGreatDoor

def lineT (h : Hdr) : List UInt8 := h.1 ++ [58, 32] ++ h.2 ++ [13, 10]
def textL : List Hdr → List UInt8
  | [] => []
  | h :: r => lineT h ++ textL r
def verT : List UInt8 := [32, 72, 84, 84, 80, 47, 49, 46, 49, 13, 10]
def headT (q : Req) : List UInt8 := q.m ++ [32] ++ q.p ++ verT
def printB (q : Req) : List UInt8 := headT q ++ textL q.hs ++ ([13, 10] ++ q.b)
/-- What Print prints; none: it is refused. -/
def printL (q : Req) : Option (List UInt8) :=
  match parseL (printB q) with
  | .ok x => if sameR x q = true then some (printB q) else none
  | .error _ => none
theorem text_app : ∀ a b : List Hdr, textL (a ++ b) = textL a ++ textL b
  | [], _ => rfl
  | h :: r, b => by simp only [List.cons_append, textL, text_app r b, List.append_assoc]
theorem text_one (h : Hdr) : textL [h] = lineT h := by simp [textL]
theorem text_mem {hs : List Hdr} {h : Hdr} (hm : h ∈ hs) : h.1.length + h.2.length + 4 ≤ (textL hs).length := by
  induction hs with
  | nil => cases hm
  | cons x r ih =>
    have e : (lineT x).length = x.1.length + x.2.length + 4 := by simp [lineT]; omega
    simp only [textL, List.length_append, e]
    rcases List.mem_cons.1 hm with rfl | hm
    · omega
    · have := ih hm; omega
theorem text_take (hs : List Hdr) (k : Nat) : (textL (hs.take k)).length ≤ (textL hs).length := by
  conv => rhs; rw [← List.take_append_drop k hs]
  rw [text_app, List.length_append]
  omega
theorem text_next {hs : List Hdr} {k : Nat} (h : k < hs.length) : textL (hs.take (k + 1)) = textL (hs.take k) ++ lineT hs[k] := by
  rw [List.take_succ_eq_append_getElem h, text_app, text_one]
theorem print_len (q : Req) : (printB q).length = q.m.length + q.p.length + (textL q.hs).length + q.b.length + 14 := by
  simp [printB, headT, verT]; omega
theorem text_len {hs : List Hdr} : hs.length ≤ (textL hs).length := by
  induction hs with
  | nil => simp
  | cons x r ih =>
    have e : (lineT x).length = x.1.length + x.2.length + 4 := by simp [lineT]; omega
    simp only [textL, List.length_append, e, List.length_cons]
    omega
end Go.Proofs.YtidhemjnchonaaaGreatDoor
