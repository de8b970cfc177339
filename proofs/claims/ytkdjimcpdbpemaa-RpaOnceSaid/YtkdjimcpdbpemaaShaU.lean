/- sha: what the reference reckons its constants with (plain, as it does it): long numbers of 32 bits a part, roots, primes. -/
import Derived.Test.YtkdjimcpdbpemaaKit
namespace Go.Proofs.Ytkdjimcpdbpemaa
open Go
set_option linter.unusedVariables false

/-- A number is added from a part on: at most f parts. -/
def addL : Nat → List Nat → Nat → Nat → List Nat
  | 0, a, _, _ => a
  | f + 1, a, p, v => if 0 < v ∧ p < a.length then addL f (a.set p ((a.getD p 0 + v % 4294967296) % 4294967296)) (p + 1) (v / 4294967296 + (a.getD p 0 + v % 4294967296) / 4294967296) else a
/-- The first i parts of a times x, into out. -/
def timesTo (a : List Nat) (x : Nat) : Nat → List Nat
  | 0 => List.replicate (a.length + 2) 0
  | i + 1 => addL (a.length + 2) (addL (a.length + 2) (timesTo a x i) i (a.getD i 0 * (x % 4294967296))) (i + 1) (a.getD i 0 * (x / 4294967296))
def timesL (a : List Nat) (x : Nat) : List Nat := timesTo a x a.length
def powL (x : Nat) : Nat → List Nat
  | 0 => [1]
  | k + 1 => timesL (powL x k) x
/-- From the highest part down: is a at most b? -/
def leL (a b : List Nat) : Nat → Bool
  | 0 => true
  | i + 1 => if a.getD i 0 ≠ b.getD i 0 then decide (a.getD i 0 < b.getD i 0) else leL a b i
def fillL (a : List Nat) (n : Nat) : List Nat := a ++ List.replicate (n - a.length) 0
def belowL (x k v : Nat) : Bool :=
  let a := powL x k
  let b := List.replicate k 0 ++ [v]
  let a2 := fillL a b.length
  leL a2 (fillL b a2.length) a2.length
/-- The bits from bit n - 1 down. -/
def rootTo (v k : Nat) : Nat → Nat → Nat
  | 0, r => r
  | n + 1, r => rootTo v k n (if belowL (r ||| 2 ^ n) k v then r ||| 2 ^ n else r)
def rootL (v k : Nat) : Nat := rootTo v k 37 0 % 4294967296
/-- The primes below v. -/
def primesTo : Nat → List Nat
  | 0 => []
  | v + 1 => if 2 ≤ v ∧ (primesTo v).all (fun p => v % p != 0) then primesTo v ++ [v] else primesTo v
def P64 : List Nat := [2, 3, 5, 7, 11, 13, 17, 19, 23, 29, 31, 37, 41, 43, 47, 53, 59, 61, 67, 71, 73, 79, 83, 89, 97, 101, 103, 107, 109, 113, 127, 131, 137, 139, 149, 151, 157, 163, 167, 173, 179, 181, 191, 193, 197, 199, 211, 223, 227, 229, 233, 239, 241, 251, 257, 263, 269, 271, 277, 281, 283, 293, 307, 311]
theorem primes_all : primesTo 312 = P64 := by decide +kernel
def K64 : List Nat := [1116352408, 1899447441, 3049323471, 3921009573, 961987163, 1508970993, 2453635748, 2870763221, 3624381080, 310598401, 607225278, 1426881987, 1925078388, 2162078206, 2614888103, 3248222580, 3835390401, 4022224774, 264347078, 604807628, 770255983, 1249150122, 1555081692, 1996064986, 2554220882, 2821834349, 2952996808, 3210313671, 3336571891, 3584528711, 113926993, 338241895, 666307205, 773529912, 1294757372, 1396182291, 1695183700, 1986661051, 2177026350, 2456956037, 2730485921, 2820302411, 3259730800, 3345764771, 3516065817, 3600352804, 4094571909, 275423344, 430227734, 506948616, 659060556, 883997877, 958139571, 1322822218, 1537002063, 1747873779, 1955562222, 2024104815, 2227730452, 2361852424, 2428436474, 2756734187, 3204031479, 3329325298]
def H8 : List Nat := [1779033703, 3144134277, 1013904242, 2773480762, 1359893119, 2600822924, 528734635, 1541459225]
set_option maxRecDepth 100000 in
theorem roots_three : P64.map (fun p => rootL p 3) = K64 := by decide +kernel
set_option maxRecDepth 100000 in
theorem roots_two : (P64.take 8).map (fun p => rootL p 2) = H8 := by decide +kernel

end Go.Proofs.Ytkdjimcpdbpemaa
