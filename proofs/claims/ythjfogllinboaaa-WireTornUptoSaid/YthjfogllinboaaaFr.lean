/- Plain: frames. No program; no condition. -/
import Derived.Test.YthjfogllinboaaaNum
import Derived.Test.YthjfogllinboaaaCrc
import Derived.Test.YthjfogllinboaaaEnc
namespace Go.Wr
/-- A number's four bytes, the lowest first. -/
def le4 (s : Nat) : List Nat := [s % 256, s / 256 % 256, s / 65536 % 256, s / 16777216 % 256]
def val4 (l : List Nat) : Nat := l.getD 0 0 + l.getD 1 0 * 256 + l.getD 2 0 * 65536 + l.getD 3 0 * 16777216
/-- A payload's frame, and an error. -/
def frame (bs : List Nat) : List Nat × Nat := if 65536 < bs.length then ([], 4) else (enc bs.length ++ bs ++ le4 (sum bs), 0)
/-- The first frame's payload, what stands behind it, an error. -/
def unframe (bs : List Nat) : List Nat × List Nat × Nat := match num bs 0 0 with
  | .bad c => ([], [], c)
  | .got n k =>
    if 65536 < n then ([], [], 4)
    else if bs.length - k < n + 4 then ([], [], 2)
    else if val4 ((bs.drop (k + n)).take 4) ≠ sum ((bs.drop k).take n) then ([], [], 11)
    else ((bs.drop k).take n, bs.drop (k + n + 4), 0)
theorem le4_lt (s : Nat) : ∀ x ∈ le4 s, x < 256 := by
  intro x hx
  simp only [le4, List.mem_cons, List.not_mem_nil, or_false] at hx
  omega
theorem val4_lt (l : List Nat) (h : ∀ x ∈ l, x < 256) : val4 l < 4294967296 := by
  have g : ∀ i, l.getD i 0 < 256 := by
    intro i
    rw [List.getD_eq_getElem?_getD]
    cases e : l[i]? with
    | none => simp
    | some x => exact h x (List.mem_of_getElem? e)
  have h0 := g 0
  have h1 := g 1
  have h2 := g 2
  have h3 := g 3
  unfold val4
  omega
end Go.Wr
