/-
  WHAT THE PROBES OF Carries ANSWER, given just the fuel that they burn: the machine is run, for each length of the string, by the kernel.
-/
import Derived.Test.Qxb6500577aGreatVPlain
import Derived.KernelRfl
namespace Go.Proofs.Qxb6500577aGreat
open Go

def probeHead : Bs := [3, 0, 3, 0, 5, 0, 2, 6, 99, 114, 101, 97, 116, 101, 2, 6, 114, 101, 115, 117, 109, 101, 2, 5, 112, 114, 105, 110, 116, 2, 5, 101, 114, 114, 111, 114, 2]
def probeCode : Bs := [43, 0, 9, 0, 0, 28, 1, 0, 26, 1, 0, 25, 0, 0, 6, 0, 0, 9, 1, 0, 5, 0, 0, 1, 4, 0, 26, 2, 0, 6, 2, 0, 6, 1, 0, 9, 2, 0, 5, 1, 0, 26, 1, 0, 25, 0, 0, 25, 0, 0, 9, 2, 0, 5, 2, 0, 26, 1, 0, 25, 0, 0, 25, 0, 0, 9, 1, 0, 5, 0, 0, 1, 4, 0, 26, 2, 0, 6, 2, 0, 6, 1, 0, 9, 2, 0, 5, 1, 0, 26, 1, 0, 25, 0, 0, 25, 0, 0, 9, 2, 0, 5, 2, 0, 26, 1, 0, 25, 0, 0, 25, 0, 0]
def probeRet : Bs := [5, 2, 0, 3, 0, 0, 27, 0, 0]
def probeErr : Bs := [9, 3, 0, 5, 2, 0, 26, 1, 0]
def probeRest : Bs := [2, 0, 0, 2, 0, 0, 27, 0, 0, 1, 4, 0, 4, 0, 2, 6, 99, 114, 101, 97, 116, 101, 2, 6, 114, 101, 115, 117, 109, 101, 2, 5, 121, 105, 101, 108, 100, 2, 5, 112, 114, 105, 110, 116, 30, 0, 9, 0, 0, 28, 2, 0, 26, 1, 0, 25, 0, 0, 6, 1, 0, 9, 1, 0, 5, 1, 0, 5, 0, 0, 26, 2, 0, 6, 3, 0, 6, 2, 0, 9, 2, 0, 5, 3, 0, 26, 1, 0, 25, 0, 0, 6, 0, 0, 9, 1, 0, 5, 1, 0, 5, 0, 0, 26, 2, 0, 6, 3, 0, 6, 2, 0, 9, 3, 0, 5, 2, 0, 26, 1, 0, 25, 0, 0, 25, 0, 0, 5, 3, 0, 3, 0, 0, 27, 0, 0, 1, 1, 0, 2, 0, 2, 5, 121, 105, 101, 108, 100, 2, 5, 101, 114, 114, 111, 114, 13, 0, 9, 0, 0, 5, 0, 0, 26, 1, 0, 25, 0, 0, 6, 0, 0, 9, 1, 0, 5, 0, 0, 26, 1, 0, 25, 0, 0, 25, 0, 0, 2, 0, 0, 2, 0, 0, 27, 0, 0]
def probe2Head : Bs := [3, 0, 10, 0, 5, 0, 2, 6, 99, 114, 101, 97, 116, 101, 2, 6, 114, 101, 115, 117, 109, 101, 2]
def probe2Rest : Bs := [2, 5, 112, 114, 105, 110, 116, 2, 6, 115, 116, 97, 116, 117, 115, 81, 0, 2, 0, 0, 6, 0, 0, 2, 0, 0, 6, 1, 0, 2, 0, 0, 6, 2, 0, 2, 0, 0, 6, 3, 0, 9, 0, 0, 28, 1, 0, 26, 1, 0, 25, 0, 0, 6, 1, 0, 9, 0, 0, 28, 2, 0, 26, 1, 0, 25, 0, 0, 6, 0, 0, 9, 1, 0, 5, 0, 0, 1, 2, 0, 26, 2, 0, 6, 5, 0, 6, 4, 0, 9, 3, 0, 5, 4, 0, 26, 1, 0, 25, 0, 0, 25, 0, 0, 9, 3, 0, 5, 5, 0, 26, 1, 0, 25, 0, 0, 25, 0, 0, 9, 1, 0, 5, 1, 0, 1, 2, 0, 26, 2, 0, 6, 7, 0, 6, 6, 0, 9, 3, 0, 5, 6, 0, 26, 1, 0, 25, 0, 0, 25, 0, 0, 9, 3, 0, 5, 7, 0, 26, 1, 0, 25, 0, 0, 25, 0, 0, 9, 1, 0, 5, 1, 0, 1, 2, 0, 26, 2, 0, 6, 9, 0, 6, 8, 0, 9, 3, 0, 5, 8, 0, 26, 1, 0, 25, 0, 0, 25, 0, 0, 9, 3, 0, 5, 9, 0, 26, 1, 0, 25, 0, 0, 25, 0, 0, 9, 3, 0, 9, 4, 0, 5, 0, 0, 26, 1, 0, 25, 0, 0, 26, 1, 0, 25, 0, 0, 25, 0, 0, 5, 9, 0, 2, 0, 0, 27, 0, 0, 29, 0, 0, 2, 0, 0, 2, 0, 0, 27, 0, 0, 1, 1, 0, 2, 0, 2, 5, 121, 105, 101, 108, 100, 2, 5, 101, 114, 114, 111, 114, 18, 0, 9, 0, 0, 5, 0, 0, 26, 1, 0, 25, 0, 0, 6, 0, 0, 9, 0, 0, 5, 0, 0, 26, 1, 0, 25, 0, 0, 6, 0, 0, 9, 1, 0, 5, 0, 0, 26, 1, 0, 25, 0, 0, 25, 0, 0, 2, 0, 0, 2, 0, 0, 27, 0, 0, 1, 3, 1, 1, 1, 2, 0, 2, 6, 114, 101, 115, 117, 109, 101, 2, 5, 121, 105, 101, 108, 100, 18, 0, 9, 0, 0, 7, 0, 0, 5, 0, 0, 26, 2, 0, 6, 2, 0, 6, 1, 0, 9, 1, 0, 5, 2, 0, 26, 1, 0, 25, 0, 0, 6, 0, 0, 5, 0, 0, 2, 0, 0, 27, 0, 0, 29, 1, 0, 2, 0, 0, 2, 0, 0, 27, 0, 0]

def probe (s : Bs) (t : Bool) : Bs := probeHead ++ [UInt8.ofNat s.length] ++ s ++ probeCode ++ (if t then probeErr else probeRet) ++ probeRest
def probe2 (s : Bs) : Bs := probe2Head ++ [UInt8.ofNat s.length] ++ s ++ probe2Rest
def probeOut (s : Bs) : Bs := [116, 114, 117, 101, 10] ++ (s ++ [10]) ++ [102, 97, 108, 115, 101, 10] ++ [116, 114, 117, 101, 10] ++ (s ++ [10])
def probe2Out (s : Bs) : Bs := [116, 114, 117, 101, 10] ++ (s ++ [10]) ++ [116, 114, 117, 101, 10] ++ (s ++ [10]) ++ [102, 97, 108, 115, 101, 10] ++ (s ++ [10]) ++ [115, 117, 115, 112, 101, 110, 100, 101, 100, 10]
section
set_option maxRecDepth 100000

theorem probe_ret (s : Bs) (h : s.length ≤ 40) : runN 60 (probe s false) 14 = some ⟨0, 0, 2, probeOut s, showV (strV s)⟩ := by
  rcases s with _ | ⟨b0, s⟩
  · clear h; kernel_rfl
  rcases s with _ | ⟨b1, s⟩
  · clear h; kernel_rfl
  rcases s with _ | ⟨b2, s⟩
  · clear h; kernel_rfl
  rcases s with _ | ⟨b3, s⟩
  · clear h; kernel_rfl
  rcases s with _ | ⟨b4, s⟩
  · clear h; kernel_rfl
  rcases s with _ | ⟨b5, s⟩
  · clear h; kernel_rfl
  rcases s with _ | ⟨b6, s⟩
  · clear h; kernel_rfl
  rcases s with _ | ⟨b7, s⟩
  · clear h; kernel_rfl
  rcases s with _ | ⟨b8, s⟩
  · clear h; kernel_rfl
  rcases s with _ | ⟨b9, s⟩
  · clear h; kernel_rfl
  rcases s with _ | ⟨b10, s⟩
  · clear h; kernel_rfl
  rcases s with _ | ⟨b11, s⟩
  · clear h; kernel_rfl
  rcases s with _ | ⟨b12, s⟩
  · clear h; kernel_rfl
  rcases s with _ | ⟨b13, s⟩
  · clear h; kernel_rfl
  rcases s with _ | ⟨b14, s⟩
  · clear h; kernel_rfl
  rcases s with _ | ⟨b15, s⟩
  · clear h; kernel_rfl
  rcases s with _ | ⟨b16, s⟩
  · clear h; kernel_rfl
  rcases s with _ | ⟨b17, s⟩
  · clear h; kernel_rfl
  rcases s with _ | ⟨b18, s⟩
  · clear h; kernel_rfl
  rcases s with _ | ⟨b19, s⟩
  · clear h; kernel_rfl
  rcases s with _ | ⟨b20, s⟩
  · clear h; kernel_rfl
  rcases s with _ | ⟨b21, s⟩
  · clear h; kernel_rfl
  rcases s with _ | ⟨b22, s⟩
  · clear h; kernel_rfl
  rcases s with _ | ⟨b23, s⟩
  · clear h; kernel_rfl
  rcases s with _ | ⟨b24, s⟩
  · clear h; kernel_rfl
  rcases s with _ | ⟨b25, s⟩
  · clear h; kernel_rfl
  rcases s with _ | ⟨b26, s⟩
  · clear h; kernel_rfl
  rcases s with _ | ⟨b27, s⟩
  · clear h; kernel_rfl
  rcases s with _ | ⟨b28, s⟩
  · clear h; kernel_rfl
  rcases s with _ | ⟨b29, s⟩
  · clear h; kernel_rfl
  rcases s with _ | ⟨b30, s⟩
  · clear h; kernel_rfl
  rcases s with _ | ⟨b31, s⟩
  · clear h; kernel_rfl
  rcases s with _ | ⟨b32, s⟩
  · clear h; kernel_rfl
  rcases s with _ | ⟨b33, s⟩
  · clear h; kernel_rfl
  rcases s with _ | ⟨b34, s⟩
  · clear h; kernel_rfl
  rcases s with _ | ⟨b35, s⟩
  · clear h; kernel_rfl
  rcases s with _ | ⟨b36, s⟩
  · clear h; kernel_rfl
  rcases s with _ | ⟨b37, s⟩
  · clear h; kernel_rfl
  rcases s with _ | ⟨b38, s⟩
  · clear h; kernel_rfl
  rcases s with _ | ⟨b39, s⟩
  · clear h; kernel_rfl
  rcases s with _ | ⟨b40, s⟩
  · clear h; kernel_rfl
  simp at h
theorem probe_err (s : Bs) (h : s.length ≤ 40) : runN 60 (probe s true) 15 = some ⟨12, 0, 2, probeOut s, showV (strV s)⟩ := by
  rcases s with _ | ⟨b0, s⟩
  · clear h; kernel_rfl
  rcases s with _ | ⟨b1, s⟩
  · clear h; kernel_rfl
  rcases s with _ | ⟨b2, s⟩
  · clear h; kernel_rfl
  rcases s with _ | ⟨b3, s⟩
  · clear h; kernel_rfl
  rcases s with _ | ⟨b4, s⟩
  · clear h; kernel_rfl
  rcases s with _ | ⟨b5, s⟩
  · clear h; kernel_rfl
  rcases s with _ | ⟨b6, s⟩
  · clear h; kernel_rfl
  rcases s with _ | ⟨b7, s⟩
  · clear h; kernel_rfl
  rcases s with _ | ⟨b8, s⟩
  · clear h; kernel_rfl
  rcases s with _ | ⟨b9, s⟩
  · clear h; kernel_rfl
  rcases s with _ | ⟨b10, s⟩
  · clear h; kernel_rfl
  rcases s with _ | ⟨b11, s⟩
  · clear h; kernel_rfl
  rcases s with _ | ⟨b12, s⟩
  · clear h; kernel_rfl
  rcases s with _ | ⟨b13, s⟩
  · clear h; kernel_rfl
  rcases s with _ | ⟨b14, s⟩
  · clear h; kernel_rfl
  rcases s with _ | ⟨b15, s⟩
  · clear h; kernel_rfl
  rcases s with _ | ⟨b16, s⟩
  · clear h; kernel_rfl
  rcases s with _ | ⟨b17, s⟩
  · clear h; kernel_rfl
  rcases s with _ | ⟨b18, s⟩
  · clear h; kernel_rfl
  rcases s with _ | ⟨b19, s⟩
  · clear h; kernel_rfl
  rcases s with _ | ⟨b20, s⟩
  · clear h; kernel_rfl
  rcases s with _ | ⟨b21, s⟩
  · clear h; kernel_rfl
  rcases s with _ | ⟨b22, s⟩
  · clear h; kernel_rfl
  rcases s with _ | ⟨b23, s⟩
  · clear h; kernel_rfl
  rcases s with _ | ⟨b24, s⟩
  · clear h; kernel_rfl
  rcases s with _ | ⟨b25, s⟩
  · clear h; kernel_rfl
  rcases s with _ | ⟨b26, s⟩
  · clear h; kernel_rfl
  rcases s with _ | ⟨b27, s⟩
  · clear h; kernel_rfl
  rcases s with _ | ⟨b28, s⟩
  · clear h; kernel_rfl
  rcases s with _ | ⟨b29, s⟩
  · clear h; kernel_rfl
  rcases s with _ | ⟨b30, s⟩
  · clear h; kernel_rfl
  rcases s with _ | ⟨b31, s⟩
  · clear h; kernel_rfl
  rcases s with _ | ⟨b32, s⟩
  · clear h; kernel_rfl
  rcases s with _ | ⟨b33, s⟩
  · clear h; kernel_rfl
  rcases s with _ | ⟨b34, s⟩
  · clear h; kernel_rfl
  rcases s with _ | ⟨b35, s⟩
  · clear h; kernel_rfl
  rcases s with _ | ⟨b36, s⟩
  · clear h; kernel_rfl
  rcases s with _ | ⟨b37, s⟩
  · clear h; kernel_rfl
  rcases s with _ | ⟨b38, s⟩
  · clear h; kernel_rfl
  rcases s with _ | ⟨b39, s⟩
  · clear h; kernel_rfl
  rcases s with _ | ⟨b40, s⟩
  · clear h; kernel_rfl
  simp at h
theorem probe2_ret (s : Bs) (h : s.length ≤ 40) : runN 80 (probe2 s) 18 = some ⟨0, 0, 2, probe2Out s, showV (strV s)⟩ := by
  rcases s with _ | ⟨b0, s⟩
  · clear h; kernel_rfl
  rcases s with _ | ⟨b1, s⟩
  · clear h; kernel_rfl
  rcases s with _ | ⟨b2, s⟩
  · clear h; kernel_rfl
  rcases s with _ | ⟨b3, s⟩
  · clear h; kernel_rfl
  rcases s with _ | ⟨b4, s⟩
  · clear h; kernel_rfl
  rcases s with _ | ⟨b5, s⟩
  · clear h; kernel_rfl
  rcases s with _ | ⟨b6, s⟩
  · clear h; kernel_rfl
  rcases s with _ | ⟨b7, s⟩
  · clear h; kernel_rfl
  rcases s with _ | ⟨b8, s⟩
  · clear h; kernel_rfl
  rcases s with _ | ⟨b9, s⟩
  · clear h; kernel_rfl
  rcases s with _ | ⟨b10, s⟩
  · clear h; kernel_rfl
  rcases s with _ | ⟨b11, s⟩
  · clear h; kernel_rfl
  rcases s with _ | ⟨b12, s⟩
  · clear h; kernel_rfl
  rcases s with _ | ⟨b13, s⟩
  · clear h; kernel_rfl
  rcases s with _ | ⟨b14, s⟩
  · clear h; kernel_rfl
  rcases s with _ | ⟨b15, s⟩
  · clear h; kernel_rfl
  rcases s with _ | ⟨b16, s⟩
  · clear h; kernel_rfl
  rcases s with _ | ⟨b17, s⟩
  · clear h; kernel_rfl
  rcases s with _ | ⟨b18, s⟩
  · clear h; kernel_rfl
  rcases s with _ | ⟨b19, s⟩
  · clear h; kernel_rfl
  rcases s with _ | ⟨b20, s⟩
  · clear h; kernel_rfl
  rcases s with _ | ⟨b21, s⟩
  · clear h; kernel_rfl
  rcases s with _ | ⟨b22, s⟩
  · clear h; kernel_rfl
  rcases s with _ | ⟨b23, s⟩
  · clear h; kernel_rfl
  rcases s with _ | ⟨b24, s⟩
  · clear h; kernel_rfl
  rcases s with _ | ⟨b25, s⟩
  · clear h; kernel_rfl
  rcases s with _ | ⟨b26, s⟩
  · clear h; kernel_rfl
  rcases s with _ | ⟨b27, s⟩
  · clear h; kernel_rfl
  rcases s with _ | ⟨b28, s⟩
  · clear h; kernel_rfl
  rcases s with _ | ⟨b29, s⟩
  · clear h; kernel_rfl
  rcases s with _ | ⟨b30, s⟩
  · clear h; kernel_rfl
  rcases s with _ | ⟨b31, s⟩
  · clear h; kernel_rfl
  rcases s with _ | ⟨b32, s⟩
  · clear h; kernel_rfl
  rcases s with _ | ⟨b33, s⟩
  · clear h; kernel_rfl
  rcases s with _ | ⟨b34, s⟩
  · clear h; kernel_rfl
  rcases s with _ | ⟨b35, s⟩
  · clear h; kernel_rfl
  rcases s with _ | ⟨b36, s⟩
  · clear h; kernel_rfl
  rcases s with _ | ⟨b37, s⟩
  · clear h; kernel_rfl
  rcases s with _ | ⟨b38, s⟩
  · clear h; kernel_rfl
  rcases s with _ | ⟨b39, s⟩
  · clear h; kernel_rfl
  rcases s with _ | ⟨b40, s⟩
  · clear h; kernel_rfl
  simp at h
end
end Go.Proofs.Qxb6500577aGreat
