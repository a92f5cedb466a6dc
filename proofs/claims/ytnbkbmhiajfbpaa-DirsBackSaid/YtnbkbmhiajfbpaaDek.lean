/- Written by a program of this session. What the prints of seat 12 import. -/
import Derived.Test.YtnbkbmhiajfbpaaDec
import Derived.Test.YtnbkbmhiajfbpaaCk
import Derived.Test.YtnbkbmhiajfbpaaCa
